/- Numbers and texts as bytes, read back: the plain law. -/
import Derived.Test.YtlonihfhgfmplaaRrI
namespace Go.Proofs.Ytlonihfhgfmplaa
open Go.RowKit

def txV (l : List UInt8) (e : Int) : ByteArray := mkB (rawV (numV 1 l e) (rawL 1 l e) (rawE 1 l e))
def txL (l : List UInt8) (e : Int) : List UInt8 := rawL (numV 1 l e) (rawL 1 l e) (rawE 1 l e)
def txE (l : List UInt8) (e : Int) : Int := rawE (numV 1 l e) (rawL 1 l e) (rawE 1 l e)
theorem numV_lt (M : Nat) (l : List UInt8) (e : Int) : numV M l e < 256 ^ M := by
  unfold numV
  exact Nat.lt_of_lt_of_le (beN_lt _) (Nat.pow_le_pow_right (by omega) (rawV_length M l e))
theorem txV_size (l : List UInt8) (e : Int) : (txV l e).size ≤ 255 := by
  unfold txV
  rw [mkB_size]
  have := rawV_length (numV 1 l e) (rawL 1 l e) (rawE 1 l e)
  have := numV_lt 1 l e
  omega
theorem beN_cons (c : UInt8) : ∀ (l : List UInt8), beN (c :: l) = c.toNat * 256 ^ l.length + beN l := by
  intro l
  have gen : ∀ (l : List UInt8) (a : Nat), l.foldl (fun n c => 256 * n + c.toNat) a = a * 256 ^ l.length + beN l := by
    intro l
    induction l with
    | nil => intro a; simp [beN]
    | cons d l ih =>
      intro a
      have e : beN (d :: l) = l.foldl (fun n c => 256 * n + c.toNat) (256 * 0 + d.toNat) := rfl
      rw [e, List.foldl_cons, ih, ih]
      simp only [List.length_cons, Nat.pow_succ]
      rw [Nat.mul_zero, Nat.zero_add, Nat.add_mul]
      have : 256 * a * 256 ^ l.length = a * (256 ^ l.length * 256) := by
        rw [Nat.mul_comm 256 a, Nat.mul_assoc, Nat.mul_comm 256]
      omega
  have e : beN (c :: l) = l.foldl (fun n c => 256 * n + c.toNat) (256 * 0 + c.toNat) := rfl
  rw [e, gen]; simp
theorem beL_mod : ∀ (m n k : Nat), beL m (n + k * 256 ^ m) = beL m n
  | 0, _, _ => rfl
  | m + 1, n, k => by
    have h1 : n + k * 256 ^ (m + 1) = n + (k * 256) * 256 ^ m := by rw [Nat.pow_succ, Nat.mul_comm (256 ^ m), ← Nat.mul_assoc]
    unfold beL
    rw [h1, Nat.add_mul_div_right _ _ (Nat.pow_pos (by omega))]
    congr 1
    · apply UInt8.toNat_inj.1
      simp
    · exact beL_mod m n (k * 256)
theorem beL_beN : ∀ (v : List UInt8), beL v.length (beN v) = v
  | [] => rfl
  | c :: v => by
    rw [beN_cons]
    show UInt8.ofNat ((c.toNat * 256 ^ v.length + beN v) / 256 ^ v.length) :: beL v.length (c.toNat * 256 ^ v.length + beN v) = _
    rw [Nat.add_comm, beL_mod, beL_beN v, Nat.add_mul_div_right _ _ (Nat.pow_pos (by omega)), Nat.div_eq_of_lt (beN_lt v)]
    congr 1
    apply UInt8.toNat_inj.1
    simp
theorem beN_beL : ∀ (m n : Nat), n < 256 ^ m → beN (beL m n) = n
  | 0, n, h => by
    have : n = 0 := by simpa using h
    subst this; rfl
  | m + 1, n, h => by
    have hp : 0 < 256 ^ m := Nat.pow_pos (by omega)
    have hd : n / 256 ^ m < 256 := by
      rw [Nat.div_lt_iff_lt_mul hp, Nat.mul_comm, ← Nat.pow_succ]; exact h
    have hm : beL m n = beL m (n % 256 ^ m) := by
      have := beL_mod m (n % 256 ^ m) (n / 256 ^ m)
      rw [Nat.mul_comm, Nat.mod_add_div] at this
      exact this
    show beN (UInt8.ofNat (n / 256 ^ m) :: beL m n) = n
    rw [beN_cons, beL_length, hm, beN_beL m _ (Nat.mod_lt _ hp)]
    have : (UInt8.ofNat (n / 256 ^ m)).toNat = n / 256 ^ m := by simp; omega
    rw [this, Nat.mul_comm, Nat.add_comm, Nat.mod_add_div]

/-! ### What was read is what lay there -/
theorem raw_split {n : Nat} {l : List UInt8} {e : Int} (h : rawE n l e = 0) : e = 0 ∧ rawV n l e ++ rawL n l e = l ∧ (rawV n l e).length = n := by
  unfold rawE at h
  split at h
  · rename_i he
    split at h
    · rename_i hn
      unfold rawV rawL
      rw [if_pos ⟨he, hn⟩, if_pos ⟨he, hn⟩]
      exact ⟨he, List.take_append_drop _ _, by simp; omega⟩
    · cases h
  · exact absurd h (by assumption)
theorem num_split {M : Nat} {l : List UInt8} {e : Int} (h : rawE M l e = 0) : e = 0 ∧ beL M (numV M l e) ++ rawL M l e = l := by
  obtain ⟨he, h1, h2⟩ := raw_split h
  refine ⟨he, ?_⟩
  have h3 := beL_beN (rawV M l e)
  rw [h2] at h3
  unfold numV
  rw [h3, h1]
theorem mkB_list (l : List UInt8) : (mkB l).data.toList = l := rfl
theorem tx_split {l : List UInt8} {e : Int} (h : txE l e = 0) : e = 0 ∧ beL 1 (txV l e).size ++ ((txV l e).data.toList ++ txL l e) = l := by
  obtain ⟨h1, h2, h3⟩ := raw_split (show rawE _ _ _ = 0 from h)
  obtain ⟨h4, h5⟩ := num_split h1
  refine ⟨h4, ?_⟩
  unfold txV txL
  rw [mkB_size, mkB_list, h3, h2, h5]
theorem raw_put (v t : List UInt8) : rawV v.length (v ++ t) 0 = v ∧ rawL v.length (v ++ t) 0 = t ∧ rawE v.length (v ++ t) 0 = 0 := by
  have hc : (0 : Int) = 0 ∧ v.length ≤ (v ++ t).length := ⟨rfl, by simp⟩
  refine ⟨?_, ?_, ?_⟩
  · unfold rawV; rw [if_pos hc]; simp
  · unfold rawL; rw [if_pos hc]; simp
  · unfold rawE; rw [if_pos rfl, if_pos hc.2]
theorem num_put {M n : Nat} (hn : n < 256 ^ M) (t : List UInt8) : numV M (beL M n ++ t) 0 = n ∧ rawL M (beL M n ++ t) 0 = t ∧ rawE M (beL M n ++ t) 0 = 0 := by
  have h := raw_put (beL M n) t
  rw [beL_length] at h
  refine ⟨?_, h.2.1, h.2.2⟩
  unfold numV
  rw [h.1, beN_beL M n hn]
theorem tx_put {s : ByteArray} (hs : s.size < 256) (t : List UInt8) : txV (beL 1 s.size ++ (s.data.toList ++ t)) 0 = s ∧ txL (beL 1 s.size ++ (s.data.toList ++ t)) 0 = t ∧ txE (beL 1 s.size ++ (s.data.toList ++ t)) 0 = 0 := by
  obtain ⟨h1, h2, h3⟩ := num_put (M := 1) (n := s.size) (by omega) (s.data.toList ++ t)
  have h := raw_put s.data.toList t
  have hl : s.data.toList.length = s.size := Array.length_toList
  rw [hl] at h
  unfold txV txL txE
  rw [h1, h2, h3]
  exact ⟨by rw [h.1]; rfl, h.2.1, h.2.2⟩

end Go.Proofs.Ytlonihfhgfmplaa
