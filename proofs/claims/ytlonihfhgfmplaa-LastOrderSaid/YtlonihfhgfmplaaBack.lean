/- What is put reads back, and what is read puts back: the plain law. -/
import Derived.Test.YtlonihfhgfmplaaLd
import Derived.Test.YtlonihfhgfmplaaPut
import Derived.Test.YtlonihfhgfmplaaLate
namespace Go.Proofs.Ytlonihfhgfmplaa
open Go.RowKit

theorem beN_cons (c : UInt8) : ∀ (l : List UInt8), beN (c :: l) = c.toNat * 256 ^ l.length + beN l := by
  intro l
  have gen : ∀ (l : List UInt8) (a : Nat), l.foldl (fun n c => 256 * n + c.toNat) a = a * 256 ^ l.length + beN l := by
    intro l
    induction l with
    | nil => intro a; simp [beN]
    | cons d l ih =>
      intro a
      have e : beN (d :: l) = l.foldl (fun n c => 256 * n + c.toNat) (256 * 0 + d.toNat) := rfl
      rw [e, List.foldl_cons, ih, ih]
      simp only [List.length_cons, Nat.pow_succ]
      rw [Nat.mul_zero, Nat.zero_add, Nat.add_mul]
      have : 256 * a * 256 ^ l.length = a * (256 ^ l.length * 256) := by
        rw [Nat.mul_comm 256 a, Nat.mul_assoc, Nat.mul_comm 256]
      omega
  have e : beN (c :: l) = l.foldl (fun n c => 256 * n + c.toNat) (256 * 0 + c.toNat) := rfl
  rw [e, gen]; simp
theorem beL_mod : ∀ (m n k : Nat), beL m (n + k * 256 ^ m) = beL m n
  | 0, _, _ => rfl
  | m + 1, n, k => by
    have h1 : n + k * 256 ^ (m + 1) = n + (k * 256) * 256 ^ m := by rw [Nat.pow_succ, Nat.mul_comm (256 ^ m), ← Nat.mul_assoc]
    unfold beL
    rw [h1, Nat.add_mul_div_right _ _ (Nat.pow_pos (by omega))]
    congr 1
    · apply UInt8.toNat_inj.1
      simp
    · exact beL_mod m n (k * 256)
theorem beL_beN : ∀ (v : List UInt8), beL v.length (beN v) = v
  | [] => rfl
  | c :: v => by
    rw [beN_cons]
    show UInt8.ofNat ((c.toNat * 256 ^ v.length + beN v) / 256 ^ v.length) :: beL v.length (c.toNat * 256 ^ v.length + beN v) = _
    rw [Nat.add_comm, beL_mod, beL_beN v, Nat.add_mul_div_right _ _ (Nat.pow_pos (by omega)), Nat.div_eq_of_lt (beN_lt v)]
    congr 1
    apply UInt8.toNat_inj.1
    simp
theorem beN_beL : ∀ (m n : Nat), n < 256 ^ m → beN (beL m n) = n
  | 0, n, h => by
    have : n = 0 := by simpa using h
    subst this; rfl
  | m + 1, n, h => by
    have hp : 0 < 256 ^ m := Nat.pow_pos (by omega)
    have hd : n / 256 ^ m < 256 := by
      rw [Nat.div_lt_iff_lt_mul hp, Nat.mul_comm, ← Nat.pow_succ]; exact h
    have hm : beL m n = beL m (n % 256 ^ m) := by
      have := beL_mod m (n % 256 ^ m) (n / 256 ^ m)
      rw [Nat.mul_comm, Nat.mod_add_div] at this
      exact this
    show beN (UInt8.ofNat (n / 256 ^ m) :: beL m n) = n
    rw [beN_cons, beL_length, hm, beN_beL m _ (Nat.mod_lt _ hp)]
    have : (UInt8.ofNat (n / 256 ^ m)).toNat = n / 256 ^ m := by simp; omega
    rw [this, Nat.mul_comm, Nat.add_comm, Nat.mod_add_div]

/-! ### What was read is what lay there -/
theorem raw_split {n : Nat} {l : List UInt8} {e : Int} (h : rawE n l e = 0) : e = 0 ∧ rawV n l e ++ rawL n l e = l ∧ (rawV n l e).length = n := by
  unfold rawE at h
  split at h
  · rename_i he
    split at h
    · rename_i hn
      unfold rawV rawL
      rw [if_pos ⟨he, hn⟩, if_pos ⟨he, hn⟩]
      exact ⟨he, List.take_append_drop _ _, by simp; omega⟩
    · cases h
  · exact absurd h (by assumption)
theorem num_split {M : Nat} {l : List UInt8} {e : Int} (h : rawE M l e = 0) : e = 0 ∧ beL M (numV M l e) ++ rawL M l e = l := by
  obtain ⟨he, h1, h2⟩ := raw_split h
  refine ⟨he, ?_⟩
  have h3 := beL_beN (rawV M l e)
  rw [h2] at h3
  unfold numV
  rw [h3, h1]
theorem mkB_list (l : List UInt8) : (mkB l).data.toList = l := rfl
theorem tx_split {l : List UInt8} {e : Int} (h : txE l e = 0) : e = 0 ∧ beL 1 (txV l e).size ++ ((txV l e).data.toList ++ txL l e) = l := by
  obtain ⟨h1, h2, h3⟩ := raw_split (show rawE _ _ _ = 0 from h)
  obtain ⟨h4, h5⟩ := num_split h1
  refine ⟨h4, ?_⟩
  unfold txV txL
  rw [mkB_size, mkB_list, h3, h2, h5]
theorem one_split {l : List UInt8} {e : Int} (h : oneE l e = 0) : e = 0 ∧ rowB (rowL (oneRow l e)) ++ oneL l e = l := by
  obtain ⟨h1, h2, h3⟩ := raw_split (show rawE _ _ _ = 0 from h)
  obtain ⟨h4, h5⟩ := num_split h1
  obtain ⟨h6, h7⟩ := tx_split h4
  obtain ⟨h8, h9⟩ := tx_split h6
  refine ⟨h8, ?_⟩
  have e1 : (idOf (rawV 32 (rawL 4 (txL (txL l e) (txE l e)) (txE (txL l e) (txE l e))) (rawE 4 (txL (txL l e) (txE l e)) (txE (txL l e) (txE l e))))).l = rawV 32 (rawL 4 (txL (txL l e) (txE l e)) (txE (txL l e) (txE l e))) (rawE 4 (txL (txL l e) (txE l e)) (txE (txL l e) (txE l e))) := by
    unfold idOf; rw [dif_pos h3]
  unfold rowB rowL oneRow rowS oneL
  simp only [Int.toNat_natCast, e1, List.append_assoc]
  rw [h2, h5, h7, h9]
theorem loop_split : ∀ (k : Nat) (s : Rds), (loopRds k s).e = 0 → ∃ X : List Row, X.length = k ∧ (loopRds k s).rows = s.rows ++ X ∧ (X.map rowL).flatMap rowB ++ (loopRds k s).l = s.l
  | 0, s, _ => ⟨[], rfl, by simp [loopRds], by simp [loopRds]⟩
  | k + 1, s, h => by
    by_cases he : s.e = 0
    · rw [loopRds_step k s he] at h ⊢
      obtain ⟨X, h1, h2, h3⟩ := loop_split k (stepRds s) h
      have h4 : oneE s.l s.e = 0 := by
        by_cases hc : (stepRds s).e = 0
        · exact hc
        · rw [loopRds_stop k _ hc] at h; exact h
      obtain ⟨_, h5⟩ := one_split h4
      refine ⟨oneRow s.l s.e :: X, by simp [h1], by rw [h2]; simp [stepRds], ?_⟩
      rw [List.map_cons, List.flatMap_cons, List.append_assoc, h3]
      exact h5
    · rw [loopRds_stop _ _ he] at h
      exact absurd h he
theorem read_split {l : List UInt8} (h : (readRds l).e = 0) : putB ((readRds l).rows.map rowL) ++ (readRds l).l = l := by
  obtain ⟨X, h1, h2, h3⟩ := loop_split _ _ h
  have hE : rawE 4 l 0 = 0 := by
    by_cases hc : rawE 4 l 0 = 0
    · exact hc
    · have h' := h
      unfold readRds at h'
      rw [loopRds_stop _ _ (show (Rds.mk [] (rawL 4 l 0) (rawE 4 l 0)).e ≠ 0 from hc)] at h'
      exact h'
  obtain ⟨_, h5⟩ := num_split hE
  unfold readRds
  rw [h2]
  unfold putB
  simp only [List.nil_append, List.length_map, List.append_assoc]
  rw [h1, h3, h5]
theorem load_parts {l : List UInt8} (h : loadE l = 0) : (readRds l).e = 0 ∧ firstE (readRds l).rows = 0 ∧ risingB (readRds l).rows = true ∧ (readRds l).l = [] := by
  unfold loadE at h
  split at h
  · exact absurd h (by assumption)
  · rename_i h1
    split at h
    · exact absurd h (by assumption)
    · rename_i h2
      split at h
      · cases h
      · rename_i h3
        split at h
        · rename_i h4
          exact ⟨by omega, by omega, by simpa using h3, h4⟩
        · cases h
theorem load_put {l : List UInt8} (h : loadE l = 0) : putB ((readRds l).rows.map rowL) = l := by
  obtain ⟨h1, _, _, h4⟩ := load_parts h
  have := read_split h1
  rwa [h4, List.append_nil] at this

/-! ### Rows that may be -/
theorem first_ok : ∀ (R : List Row), firstE R = 0 ↔ ∀ p ∈ R.map rowL, checkE p.1 p.2 = 0
  | [] => by simp [firstE]
  | x :: R => by
    unfold firstE
    have ih := first_ok R
    constructor
    · intro h
      split at h
      · rename_i hx
        intro p hp
        rcases List.mem_cons.1 hp with e | hp
        · rw [e]; exact hx
        · exact ih.1 h p hp
      · exact absurd h (by assumption)
    · intro h
      rw [if_pos (show checkE x.key (rowS x) = 0 from h (rowL x) (by simp))]
      exact ih.2 fun p hp => h p (by simp only [List.map_cons, List.mem_cons]; exact .inr hp)
theorem risingB_ok : ∀ (R : List Row), risingB R = true ↔ Rising (R.map rowL)
  | [] => by simp [risingB, Rising]
  | [x] => by simp [risingB, Rising]
  | x :: y :: R => by
    have ih := risingB_ok (y :: R)
    unfold risingB
    rw [Bool.and_eq_true, ih, bltS_cmp, decide_eq_true_eq]
    constructor
    · rintro ⟨h1, h2⟩
      refine ⟨fun z hz => ?_, h2⟩
      rcases List.mem_cons.1 hz with e | hz
      · rw [e]; exact h1
      · exact cmpS_trans _ _ _ h1 (h2.1 z hz)
    · rintro ⟨h1, h2⟩
      exact ⟨h1 (rowL y) (by simp), h2⟩
theorem load_rows {l : List UInt8} (h : loadE l = 0) : RowsOk ((readRds l).rows.map rowL) := by
  obtain ⟨_, h2, h3, _⟩ := load_parts h
  exact ⟨(risingB_ok _).1 h3, (first_ok _).1 h2⟩

/-! ### What was put reads back -/
theorem raw_put (v t : List UInt8) : rawV v.length (v ++ t) 0 = v ∧ rawL v.length (v ++ t) 0 = t ∧ rawE v.length (v ++ t) 0 = 0 := by
  have hc : (0 : Int) = 0 ∧ v.length ≤ (v ++ t).length := ⟨rfl, by simp⟩
  refine ⟨?_, ?_, ?_⟩
  · unfold rawV; rw [if_pos hc]; simp
  · unfold rawL; rw [if_pos hc]; simp
  · unfold rawE; rw [if_pos rfl, if_pos hc.2]
theorem num_put {M n : Nat} (hn : n < 256 ^ M) (t : List UInt8) : numV M (beL M n ++ t) 0 = n ∧ rawL M (beL M n ++ t) 0 = t ∧ rawE M (beL M n ++ t) 0 = 0 := by
  have h := raw_put (beL M n) t
  rw [beL_length] at h
  refine ⟨?_, h.2.1, h.2.2⟩
  unfold numV
  rw [h.1, beN_beL M n hn]
theorem tx_put {s : ByteArray} (hs : s.size < 256) (t : List UInt8) : txV (beL 1 s.size ++ (s.data.toList ++ t)) 0 = s ∧ txL (beL 1 s.size ++ (s.data.toList ++ t)) 0 = t ∧ txE (beL 1 s.size ++ (s.data.toList ++ t)) 0 = 0 := by
  obtain ⟨h1, h2, h3⟩ := num_put (M := 1) (n := s.size) (by omega) (s.data.toList ++ t)
  have h := raw_put s.data.toList t
  have hl : s.data.toList.length = s.size := Array.length_toList
  rw [hl] at h
  unfold txV txL txE
  rw [h1, h2, h3]
  exact ⟨by rw [h.1]; rfl, h.2.1, h.2.2⟩
theorem one_put {x : Row} (h : checkE x.key (rowS x) = 0) (t : List UInt8) : oneRow (rowB (rowL x) ++ t) 0 = x ∧ oneL (rowB (rowL x) ++ t) 0 = t ∧ oneE (rowB (rowL x) ++ t) 0 = 0 := by
  have hb := checkE_bd h
  obtain ⟨k, v, n, d⟩ := x
  simp only [rowS] at hb
  have e0 : rowB (rowL ⟨k, v, n, d⟩) ++ t = beL 1 k.size ++ (k.data.toList ++ (beL 1 v.size ++ (v.data.toList ++ (beL 4 n.toNat ++ (d.l ++ t))))) := by
    simp [rowB, rowL, rowS]
  rw [e0]
  obtain ⟨a1, a2, a3⟩ := tx_put (s := k) (by omega) (beL 1 v.size ++ (v.data.toList ++ (beL 4 n.toNat ++ (d.l ++ t))))
  obtain ⟨b1, b2, b3⟩ := tx_put (s := v) (by omega) (beL 4 n.toNat ++ (d.l ++ t))
  obtain ⟨c1, c2, c3⟩ := num_put (M := 4) (n := n.toNat) (by omega) (d.l ++ t)
  have hd := raw_put d.l t
  rw [d.h] at hd
  obtain ⟨d1, d2, d3⟩ := hd
  unfold oneRow oneL oneE
  rw [a1, a2, a3, b1, b2, b3, c1, c2, c3, d1, d2, d3]
  refine ⟨?_, rfl, rfl⟩
  have e1 : idOf d.l = d := by unfold idOf; rw [dif_pos d.h]
  rw [e1]
  have e2 : ((n.toNat : Nat) : Int) = n := by omega
  rw [e2]
theorem loop_put : ∀ (X R : List Row) (t : List UInt8), (∀ p ∈ X.map rowL, checkE p.1 p.2 = 0) → loopRds X.length ⟨R, (X.map rowL).flatMap rowB ++ t, 0⟩ = ⟨R ++ X, t, 0⟩
  | [], R, t, _ => by simp [loopRds]
  | x :: X, R, t, h => by
    rw [List.length_cons, loopRds_step _ _ rfl]
    obtain ⟨h1, h2, h3⟩ := one_put (x := x) (h (rowL x) (by simp)) ((X.map rowL).flatMap rowB ++ t)
    have e : stepRds ⟨R, ((x :: X).map rowL).flatMap rowB ++ t, 0⟩ = ⟨R ++ [x], (X.map rowL).flatMap rowB ++ t, 0⟩ := by
      unfold stepRds
      simp only [List.map_cons, List.flatMap_cons, List.append_assoc]
      rw [h1, h2, h3]
    rw [e, loop_put X (R ++ [x]) t (fun p hp => h p (by simp only [List.map_cons, List.mem_cons]; exact .inr hp))]
    simp
theorem read_put {X : List Row} (h : ∀ p ∈ X.map rowL, checkE p.1 p.2 = 0) (hn : X.length < 4294967296) : readRds (putB (X.map rowL)) = ⟨X, [], 0⟩ := by
  unfold readRds putB
  rw [List.length_map]
  obtain ⟨h1, h2, h3⟩ := num_put (M := 4) (n := X.length) (by omega) ((X.map rowL).flatMap rowB)
  rw [h1, h2, h3]
  have := loop_put X [] [] h
  simpa using this
theorem rows_of (L : List LRow) : ∃ X : List Row, X.map rowL = L := ⟨L.map fun p => ⟨p.1, p.2.val, p.2.n, p.2.id⟩, by
  rw [List.map_map]
  conv => rhs; rw [← List.map_id L]
  exact List.map_congr_left fun p _ => rfl⟩
theorem put_load {X : List Row} (h : RowsOk (X.map rowL)) (hn : X.length < 4294967296) : loadE (putB (X.map rowL)) = 0 ∧ (readRds (putB (X.map rowL))).rows = X := by
  have h1 := read_put h.2 hn
  refine ⟨?_, by rw [h1]⟩
  unfold loadE
  rw [h1]
  simp only [ne_eq, not_true_eq_false, if_false, if_true]
  rw [if_neg (by rw [(first_ok X).2 h.2]; simp), if_neg (by rw [(risingB_ok X).2 h.1]; simp)]

/-- Rising rows are their own latest. -/
theorem insR_end : ∀ (X : List Row) (x : Row), (∀ y ∈ X, cmpS y.key x.key < 0) → insR X x = X ++ [x]
  | [], _, _ => rfl
  | y :: X, x, h => by
    unfold insR
    rw [if_pos (h y (by simp)), insR_end X x (fun z hz => h z (by simp [hz]))]; rfl
theorem latest_rising : ∀ (Y X : List Row), Rising ((X ++ Y).map rowL) → Y.foldl insR X = X ++ Y
  | [], X, _ => by simp
  | y :: Y, X, h => by
    have hlt : ∀ z ∈ X, cmpS z.key y.key < 0 := by
      intro z hz
      obtain ⟨i, hi, rfl⟩ := List.mem_iff_getElem.1 hz
      clear hz
      induction X generalizing i with
      | nil => simp at hi
      | cons a X ih =>
        cases i with
        | zero => exact h.1 (rowL y) (by simp)
        | succ i => exact ih h.2 i (by simpa using hi)
    rw [List.foldl_cons, insR_end X y hlt, latest_rising Y (X ++ [y]) (by simpa using h)]
    simp
theorem latestR_rising {X : List Row} (h : Rising (X.map rowL)) : latestR X = X := latest_rising X [] h

/-! ### The order plays no part -/
theorem orL3_zero {a b c : Int} : orL [a, b, c] = 0 ↔ a = 0 ∧ b = 0 ∧ c = 0 := by
  simp only [orL]
  repeat' split
  all_goals simp_all
theorem cmpI_zero {a b : Int} : cmpI a b = 0 ↔ a = b := by
  unfold cmpI
  repeat' split
  all_goals first | (simp; omega) | (constructor <;> intro h <;> omega)
theorem cmpI_anti (a b : Int) : cmpI b a = - cmpI a b := by
  unfold cmpI
  repeat' split
  all_goals first | omega | simp
theorem cmpI_trans {a b c : Int} (h : cmpI a b < 0) (k : cmpI b c < 0) : cmpI a c < 0 := by
  have h1 : a < b := by unfold cmpI at h; repeat' split at h
                        all_goals first | assumption | omega
  have h2 : b < c := by unfold cmpI at k; repeat' split at k
                        all_goals first | assumption | omega
  unfold cmpI; rw [if_pos (by omega)]; omega
theorem cmpSet_zero {x y : Setting} : cmpSet x y = 0 ↔ x = y := by
  unfold cmpSet
  rw [orL3_zero, cmpI_zero, cmpId_zero, cmpS_zero]
  constructor
  · rintro ⟨h1, h2, h3⟩; cases x; cases y; simp_all
  · rintro rfl; simp
theorem orL3_neg (a b c : Int) : orL [-a, -b, -c] = - orL [a, b, c] := by
  simp only [orL]
  repeat' split
  all_goals first | omega | simp
theorem cmpSet_anti (x y : Setting) : cmpSet y x = - cmpSet x y := by
  unfold cmpSet
  rw [cmpI_anti, cmpId_anti, cmpS_anti, orL3_neg]
theorem orL3_lt {a b c : Int} : orL [a, b, c] < 0 ↔ a < 0 ∨ a = 0 ∧ (b < 0 ∨ b = 0 ∧ c < 0) := by
  simp only [orL]
  repeat' split
  all_goals (constructor <;> intro h <;> omega)
theorem cmpSet_trans {x y z : Setting} (h : cmpSet x y < 0) (k : cmpSet y z < 0) : cmpSet x z < 0 := by
  unfold cmpSet at *
  rw [orL3_lt] at *
  rcases h with h | ⟨h1, h | ⟨h2, h⟩⟩
  · rcases k with k | ⟨k1, _⟩
    · exact .inl (cmpI_trans h k)
    · rw [cmpI_zero] at k1; rw [← k1]; exact .inl h
  · rw [cmpI_zero] at h1; rw [h1]
    rcases k with k | ⟨k1, k | ⟨k2, k⟩⟩
    · exact .inl k
    · exact .inr ⟨k1, .inl (cmpId_trans _ _ _ h k)⟩
    · rw [cmpId_zero] at k2; rw [← k2]; exact .inr ⟨k1, .inl h⟩
  · rw [cmpI_zero] at h1; rw [cmpId_zero] at h2; rw [h1, h2]
    rcases k with k | ⟨k1, k | ⟨k2, k⟩⟩
    · exact .inl k
    · exact .inr ⟨k1, .inl k⟩
    · exact .inr ⟨k1, .inr ⟨k2, cmpS_trans _ _ _ h k⟩⟩

/-- The later of two, one of which may be none. -/
def maxS (o : Option Setting) (x : Setting) : Setting := match o with | none => x | some was => if 0 < cmpSet x was then x else was
theorem maxS_none (x : Setting) : maxS none x = x := rfl
theorem maxS_some (u x : Setting) : maxS (some u) x = if 0 < cmpSet x u then x else u := rfl
theorem max2_comm (x y : Setting) : (if 0 < cmpSet y x then y else x) = if 0 < cmpSet x y then x else y := by
  have hxy := cmpSet_anti x y
  by_cases h : cmpSet x y = 0
  · rw [cmpSet_zero.1 h]
  · by_cases h1 : 0 < cmpSet x y
    · rw [if_pos h1, if_neg (by omega)]
    · rw [if_neg h1, if_pos (by omega)]
theorem maxS_comm (o : Option Setting) (x y : Setting) : maxS (some (maxS o x)) y = maxS (some (maxS o y)) x := by
  cases o with
  | none => simp only [maxS_none, maxS_some]; exact max2_comm x y
  | some u =>
    simp only [maxS_some]
    have hxy := cmpSet_anti x y
    have hux := cmpSet_anti x u; have huy := cmpSet_anti y u
    by_cases h1 : 0 < cmpSet x u <;> by_cases h2 : 0 < cmpSet y u <;> simp only [h1, h2, if_true, if_false]
    · exact max2_comm x y
    · rw [if_neg]
      intro h3
      have := cmpSet_trans (x := u) (y := x) (z := y) (by omega) (by omega)
      omega
    · rw [if_neg]
      intro h3
      have := cmpSet_trans (x := u) (y := y) (z := x) (by omega) (by omega)
      omega
theorem maxS_idem (o : Option Setting) (x : Setting) : maxS (some (maxS o x)) x = maxS o x := by
  cases o with
  | none => simp only [maxS_none, maxS_some]; exact ite_self _
  | some u =>
    simp only [maxS_some]
    by_cases h : 0 < cmpSet x u
    · simp only [h, if_true]; exact ite_self _
    · simp only [h, if_false]

end Go.Proofs.Ytlonihfhgfmplaa
