/- Package octet: the Reader's Num. -/
import Derived.Test.YtlonihfhgfmplaaRd
namespace Go.Proofs.Ytlonihfhgfmplaa
open Go.RowKit

theorem bytesWorld_below (w : World) (e : TypeId) (s : ByteArray) : Below w.heap.size w (Lib.bytesWorld w e s) :=
  ⟨rfl, rfl, rfl, by rw [Lib.bytesWorld_size]; omega, fun k hk => Lib.bytesWorld_at_old w e s k hk⟩
theorem mkB_size (l : List UInt8) : (mkB l).size = l.length := by show l.toArray.size = _; simp
theorem bits_or8 (b x : Nat) (hb : b < 16777216) (hx : x < 256) : bits BinOp.or IntKind.i64 ((b : Int) * 256) (x : Int) = ((256 * b + x : Nat) : Int) := by
  have h1 : (BitVec.ofInt 64 ((b : Int) * 256)).toNat = 256 * b := by
    rw [BitVec.toNat_ofInt]
    have : ((b : Int) * 256) % ((2 ^ 64 : Nat) : Int) = ((256 * b : Nat) : Int) := by omega
    rw [this]; exact Int.toNat_natCast _
  have h2 : (BitVec.ofInt 64 (x : Int)).toNat = x := by
    rw [BitVec.toNat_ofInt]
    have : (x : Int) % ((2 ^ 64 : Nat) : Int) = (x : Int) := by omega
    rw [this]; simp
  have h3 : (BitVec.ofInt 64 ((b : Int) * 256) ||| BitVec.ofInt 64 (x : Int)).toNat = 256 * b + x := by
    rw [BitVec.toNat_or, h1, h2]
    have := Nat.two_pow_add_eq_or_of_lt (i := 8) (b := x) (by omega) b
    rw [show (2 : Nat) ^ 8 = 256 from rfl] at this
    exact this.symm
  show IntKind.i64.wrap (((BitVec.ofInt 64 ((b : Int) * 256) ||| BitVec.ofInt 64 (x : Int)).toNat : Nat) : Int) = _
  rw [h3]
  exact IntWalk.i64_in _ (by omega)
def numV (M : Nat) (l : List UInt8) (e : Int) : Nat := beN (rawV M l e)

set_option maxHeartbeats 1000000 in
theorem rd_num (w : World) (g M : Nat) (l : List UInt8) (e : Int) (h : RdAt w g l e) (hM : M = 1 ∨ M = 4) :
    Calls Try.prog 92 #[.pointer (some ⟨g, 0, none⟩), .int .i64 M] w fun en w' => en = .returned (.int .i64 (numV M l e)) ∧ RdStep w g (rawL M l e) (rawE M l e) w' := by
  have h0 := h
  obtain ⟨s, a, ha, hs, hg, hl⟩ := h
  obtain ⟨_, _, c2, c3, _⟩ := rd_cells hg
  have Hh := Lib.hid h0
  clear hl hg ha hs h0
  cases he : (e == 0) with
  | false =>
    have he' : e ≠ 0 := by simpa using he
    have e1 : numV M l e = 0 := by unfold numV rawV; rw [if_neg (fun hh => he' hh.1)]; rfl
    have e2 : rawL M l e = l := by unfold rawL; rw [if_neg (fun hh => he' hh.1)]
    have e3 : rawE M l e = e := by unfold rawE; rw [if_neg he']
    have E1 := Lib.hid e1; have E2 := Lib.hid e2; have E3 := Lib.hid e3
    clear e1 e2 e3 he'
    go_enter Try.func92, Try.ntmps92
    go_wp2_with fail
    refine (rd_stuck _ _ e c3 c2).mono ?_; rintro en w' ⟨rfl, rfl⟩
    go_wp2_with fail
    go_ret
    exact ⟨ret_int (by rw [E1.out]; rfl), by rw [E2.out, E3.out]; exact ⟨Hh.out, Keep.refl _ _⟩⟩
  | true =>
    obtain rfl : e = 0 := by simpa using he
    clear he
    have hM4 : M ≤ 4 := by omega
    have hMb : ((8 * (M : Int)) == 0) = false := by rw [beq_eq_false_iff_ne]; omega
    have hMo : (M : Int) = 1 ∨ (M : Int) = 2 ∨ (M : Int) = 4 := by omega
    have HMo := Lib.hid hMo
    obtain ⟨v, hv⟩ : ∃ v, rawV M l 0 = v := ⟨_, rfl⟩
    have hvl : v.length ≤ 4 := by have := rawV_length M l 0; rw [hv] at this; omega
    have hnv : Hid (numV M l 0 = beN v) := by show _ = _; unfold numV; rw [hv]
    have Hv := Lib.hid hv
    clear hM hMo hv
    go_enter Try.func92, Try.ntmps92
    go_wp2_with fail
    refine (rd_stuck _ _ 0 c3 c2).mono ?_; rintro en w' ⟨rfl, rfl⟩
    go_wp2_with fail
    refine (obits M _ HMo.out).mono ?_; rintro e w' ⟨rfl, rfl⟩
    clear c2 c3
    go_wp2_with fail
    refine (rd_raw _ g M l 0 Hh.out (by omega)).mono ?_; rintro e w1 ⟨rfl, hst⟩
    rw [Hv.out]
    have hcv := Lib.run_convert_string_bytes (P := Try.prog) w1 9 100 5 (mkB v) Try.underlying9 Try.underlying100 Try.underlying5
    have hbw := bytesWorld_below w1 5 (mkB v)
    have hcell : Hid (∀ j (hj : j < v.length), (Lib.bytesWorld w1 5 (mkB v)).cell? ⟨w1.heap.size, j, none⟩ = some (.int .u8 (v[j]).toNat)) := fun j hj => by
      have := Lib.bytesWorld_cell w1 5 (mkB v) j (by rw [mkB_size]; exact hj)
      rw [this]
      simp [mkB, List.getD, hj]
    rw [mkB_size] at hcv
    obtain ⟨W, hW⟩ : ∃ W, Lib.bytesWorld w1 5 (mkB v) = W := ⟨_, rfl⟩
    rw [hW] at hcv hbw hcell
    have hst2 : RdStep w g (rawL M l 0) (rawE M l 0) W := ⟨hst.1.below hbw, Keep.trans hst.2 (Keep.of_below hbw) (by simp)⟩
    have Hst := Lib.hid hst2
    clear hW hbw hst hst2
    go_wp2_with fail
    go_loop [5, 21] (fun n i => ∃ k : Nat, k ≤ v.length ∧ i = .int .i64 k ∧ n = .int .i64 (beN (v.take k))) (fun _ i => v.length - (intOf i).toNat)
    case atStart => exact ⟨0, Nat.zero_le _, rfl, rfl⟩
    case round =>
      obtain ⟨k, hk, rfl, rfl⟩ := hrel
      by_cases hlt : k < v.length
      · have hc := hcell.out k hlt
        have htk : v.take (k + 1) = v.take k ++ [v[k]] := by rw [List.take_add_one, List.getElem?_eq_getElem hlt]; rfl
        have hsn := beN_snoc (v.take k) v[k]
        rw [← htk] at hsn
        have hbd := beN_lt (v.take k)
        have hkl : (v.take k).length ≤ 3 := by simp; omega
        have hbd2 : beN (v.take k) < 16777216 := Nat.lt_of_lt_of_le hbd (by have := Nat.pow_le_pow_right (show 0 < 256 by omega) hkl; simpa using this)
        have hcb := (v[k]).toNat_lt
        have Hsn := Lib.hid hsn
        clear htk hsn hbd hkl
        obtain ⟨x, hx⟩ : ∃ x, (v[k]).toNat = x := ⟨_, rfl⟩
        obtain ⟨b, hb⟩ : ∃ b, beN (v.take k) = b := ⟨_, rfl⟩
        rw [hx] at hc hcb
        rw [hb] at hbd2 ⊢
        go_wp2_with fail
        go_round
        case rel => exact ⟨k + 1, by omega, by go_num, by rw [bits_or8 b x (by omega) (by omega), Hsn.out, hb, hx]⟩
        case measure => simp [intOf]; omega
      · have hkv : k = v.length := by omega
        have e2 : v.take k = v := List.take_of_length_le (by omega)
        rw [e2]
        clear e2 hkv
        go_wp2_with fail
        go_ret
        exact ⟨ret_int (by rw [hnv.out]), Hst.out⟩

end Go.Proofs.Ytlonihfhgfmplaa
