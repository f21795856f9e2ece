/- Settings in any order, some of them twice, make the same rows: the plain law. -/
import Derived.Test.YtlonihfhgfmplaaBack
import Derived.Test.YtlonihfhgfmplaaLastV
namespace Go.Proofs.Ytlonihfhgfmplaa
open Go.RowKit

theorem rising_ext : ∀ {L L' : List LRow}, Rising L → Rising L' → (∀ k, getL L k = getL L' k) → L = L'
  | [], [], _, _, _ => rfl
  | [], b :: l', _, _, h => by
    have := h b.1
    rw [getL_cons, if_pos rfl] at this
    cases this
  | a :: l, [], _, _, h => by
    have := h a.1
    rw [getL_cons, if_pos rfl] at this
    cases this
  | a :: l, b :: l', h1, h2, h => by
    have ha := h a.1
    have hb := h b.1
    rw [getL_cons, if_pos rfl] at ha
    rw [getL_cons (a := b), if_pos rfl] at hb
    have hk : a.1 = b.1 := by
      by_cases hlt : cmpS a.1 b.1 < 0
      · have : getL (b :: l') a.1 = none := getL_lt (fun y hy => by
          rcases List.mem_cons.1 hy with e | hy
          · rw [e]; exact hlt
          · exact cmpS_trans _ _ _ hlt (h2.1 y hy))
        rw [this] at ha; cases ha
      · by_cases he : a.1 = b.1
        · exact he
        · have hlt2 := cmpS_ne hlt he
          have : getL (a :: l) b.1 = none := getL_lt (fun y hy => by
            rcases List.mem_cons.1 hy with e | hy
            · rw [e]; exact hlt2
            · exact cmpS_trans _ _ _ hlt2 (h1.1 y hy))
          rw [this] at hb; cases hb
    rw [getL_cons, if_pos hk.symm] at ha
    have hv : a.2 = b.2 := by injection ha
    have hab : a = b := Prod.ext hk hv
    subst hab
    congr 1
    refine rising_ext h1.2 h2.2 fun k => ?_
    by_cases e : a.1 = k
    · subst e
      rw [getL_lt h1.1, getL_lt h2.1]
    · have := h k
      rwa [getL_cons, getL_cons, if_neg e, if_neg e] at this

theorem getL_ins_max {l : List LRow} {k : ByteArray} {x : Setting} (h : Rising l) : getL (insL l k x) k = some (maxS (getL l k) x) := by
  rw [getL_ins_same l k x h]
  cases getL l k <;> rfl
theorem insL_comm {l : List LRow} (h : Rising l) (k k' : ByteArray) (x y : Setting) : insL (insL l k x) k' y = insL (insL l k' y) k x := by
  have h1 := insL_rising l k x h
  have h2 := insL_rising l k' y h
  refine rising_ext (insL_rising _ _ _ h1) (insL_rising _ _ _ h2) fun q => ?_
  by_cases e1 : k' = q
  · subst e1
    rw [getL_ins_max h1]
    by_cases e2 : k = k'
    · subst e2
      rw [getL_ins_max h, getL_ins_max h2, getL_ins_max h, maxS_comm]
    · rw [getL_ins_other _ _ _ _ e2, getL_ins_other _ _ _ _ e2, getL_ins_max h]
  · rw [getL_ins_other _ _ _ _ e1]
    by_cases e2 : k = q
    · subst e2
      rw [getL_ins_max h, getL_ins_max h2, getL_ins_other _ _ _ _ e1]
    · rw [getL_ins_other _ _ _ _ e2, getL_ins_other _ _ _ _ e2, getL_ins_other _ _ _ _ e1]
theorem insL_idem {l : List LRow} (h : Rising l) (k : ByteArray) (x : Setting) : insL (insL l k x) k x = insL l k x := by
  have h1 := insL_rising l k x h
  refine rising_ext (insL_rising _ _ _ h1) h1 fun q => ?_
  by_cases e1 : k = q
  · subst e1
    rw [getL_ins_max h1, getL_ins_max h, maxS_idem]
  · rw [getL_ins_other _ _ _ _ e1]
/-- A row more. -/
def addL (l : List LRow) (x : Row) : List LRow := setL l x.key (rowS x)
theorem addL_ok {l : List LRow} (h : RowsOk l) (x : Row) : RowsOk (addL l x) := setL_ok h _ _
theorem addL_comm {l : List LRow} (h : RowsOk l) (x y : Row) : addL (addL l x) y = addL (addL l y) x := by
  unfold addL setL
  by_cases h1 : checkE x.key (rowS x) = 0 <;> by_cases h2 : checkE y.key (rowS y) = 0 <;> simp only [h1, h2, if_true, if_false]
  exact insL_comm h.1 _ _ _ _
theorem addL_idem {l : List LRow} (h : RowsOk l) (x : Row) : addL (addL l x) x = addL l x := by
  unfold addL setL
  by_cases h1 : checkE x.key (rowS x) = 0 <;> simp only [h1, if_true, if_false]
  exact insL_idem h.1 _ _
def allL (R : List Row) : List LRow := R.foldl addL []
theorem foldA_ok : ∀ (R : List Row) (l : List LRow), RowsOk l → RowsOk (R.foldl addL l)
  | [], _, h => h
  | x :: R, l, h => foldA_ok R _ (addL_ok h x)
theorem foldA_comm : ∀ (R : List Row) (l : List LRow) (x : Row), RowsOk l → R.foldl addL (addL l x) = addL (R.foldl addL l) x
  | [], _, _, _ => rfl
  | y :: R, l, x, h => by
    rw [List.foldl_cons, addL_comm h, foldA_comm R _ x (addL_ok h y)]; rfl
theorem foldA_rev : ∀ (R : List Row) (l : List LRow), RowsOk l → R.reverse.foldl addL l = R.foldl addL l
  | [], _, _ => rfl
  | x :: R, l, h => by
    rw [List.reverse_cons, List.foldl_append, foldA_rev R l h, List.foldl_cons, List.foldl_nil, List.foldl_cons, foldA_comm R l x h]
theorem rowsOk_nil : RowsOk [] := ⟨trivial, fun _ h => absurd h (by simp)⟩
theorem allL_rev (R : List Row) : allL R.reverse = allL R := foldA_rev R [] rowsOk_nil
theorem allL_snoc (R : List Row) (x : Row) : allL (R ++ [x]) = addL (allL R) x := by simp [allL]
theorem allL_ok (R : List Row) : RowsOk (allL R) := foldA_ok R [] rowsOk_nil
theorem allL_length : ∀ (R : List Row), (allL R).length ≤ R.length := by
  intro R
  have gen : ∀ (R : List Row) (l : List LRow), (R.foldl addL l).length ≤ l.length + R.length := by
    intro R
    induction R with
    | nil => intro l; simp
    | cons x R ih =>
      intro l
      have := ih (addL l x)
      have h2 : (addL l x).length ≤ l.length + 1 := setL_length _ _ _
      simp only [List.foldl_cons, List.length_cons]; omega
  have := gen R []
  simpa [allL] using this

theorem rowB_pos (p : LRow) : 1 ≤ (rowB p).length := by
  simp only [rowB, List.length_append, beL_length]; omega
theorem rows_pos : ∀ (L : List LRow), L.length ≤ (L.flatMap rowB).length
  | [] => by simp
  | p :: L => by
    have h1 := rowB_pos p
    have h2 := rows_pos L
    simp only [List.flatMap_cons, List.length_append, List.length_cons]; omega
theorem read_bound (l : List UInt8) (h : (readRds l).e = 0) : (readRds l).rows.length ≤ l.length := by
  have h1 := read_split h
  have h2 := congrArg List.length h1
  have h3 := rows_pos ((readRds l).rows.map rowL)
  unfold putB at h2
  simp only [List.length_append, List.length_map] at h2 h3
  omega

end Go.Proofs.Ytlonihfhgfmplaa
