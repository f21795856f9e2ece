/- The reference Ids (petrelref01) at one id. -/
import Derived.Test.YtlonihfhgfmplaaR1Num
namespace Go.Proofs.Ytlonihfhgfmplaa
open Go.RowKit

theorem bs1_u8 (w : World) (c : Int) : (Instr.buildSlice 100 1 #[(0, .int .u8 c)]).run Try.prog w = .ok (.slice (some ⟨w.heap.size, 0, none⟩) 1 1) (w.alloc (.cells #[.int .u8 c] 5)) := by
  have h0 : (bsS 100 1 #[(0, .agg #[.int .u8 c])]).run Try.prog w = _ := run_bsS1 einfoByte (by omega) w #[.int .u8 c] (by simp)
  exact h0

set_option maxHeartbeats 1000000 in
set_option maxRecDepth 100000 in
theorem rids (d : Id32) (w : World) (q o c : Nat) (h : rowAt w q o 32 = some (idC d)) :
    Calls Try.prog 54 #[.slice (some ⟨q, o, none⟩) 1 c] w fun e w' => ∃ s : ByteArray, e = .returned (.string s) ∧ s.data.toList = 1 :: d.l ∧ Below w.heap.size w w' := by
  have c1 := rnum1 1 w (by omega)
  go_enter Try.func54, Try.ntmps54
  go_wp2_with fail
  refine c1.mono ?_; rintro e w1 ⟨rfl, hb1⟩
  clear c1
  have hr1 : rowAt w1 q o 32 = some (idC d) := (rowAt_of_block (hb1.block q (rowAt_lt h)) _ _).trans h
  obtain ⟨s0, hs0⟩ : ∃ s0 : ByteArray, (⟨(beL 1 1).toArray⟩ : ByteArray) = s0 := ⟨_, rfl⟩
  have Hs0 := Lib.hid hs0
  rw [hs0]
  clear hs0
  go_wp2_with fail
  refine wp_loop_rounds 2 ?_
  rw [rounds_succ]
  go_wp2_with fail
  go_loopw [3, 6] (fun v i wr => ∃ (k : Nat) (s : ByteArray), k ≤ 32 ∧ i = .int .i64 k ∧ v = .string s ∧ s.size = 1 + k ∧ Hid (s.data.toList = 1 :: d.l.take k) ∧ Below w1.heap.size w1 wr) (fun _ i _ => 32 - (intOf i).toNat)
  case atStart => exact ⟨0, s0, by omega, rfl, rfl, (by rw [← Hs0.out]; rfl), (show s0.data.toList = _ by rw [← Hs0.out]; rfl), Below.refl _ _⟩
  case round =>
    obtain ⟨k, s, hk, rfl, rfl, hsz, hs, hb⟩ := hrel
    by_cases hlt : k < 32
    · have hr2 : rowAt wr q o 32 = some (idC d) := (rowAt_of_block (hb.block q (rowAt_lt hr1)) _ _).trans hr1
      have hc := rowAt_cell hr2 (j := k) hlt
      have hdk : k < d.l.length := by rw [d.h]; exact hlt
      have hce : (idC d)[k]? = some (.int .u8 (d.l[k]).toNat) := by simp [idC, byteC, hdk]
      rw [hce] at hc
      have htk : d.l.take (k + 1) = d.l.take k ++ [d.l[k]] := by rw [List.take_add_one, List.getElem?_eq_getElem hdk]; rfl
      obtain ⟨x, hx⟩ : ∃ x, d.l[k] = x := ⟨_, rfl⟩
      rw [hx] at hc htk
      have Htk := Lib.hid htk
      have hbs := bs1_u8 wr (x.toNat : Int)
      have hcv := conv_bytes wr [x] 1 rfl #[.int .u8 (x.toNat : Int)] rfl
      clear hce hx htk hr2
      have hbn : Below w1.heap.size w1 (wr.alloc (.cells #[.int .u8 (x.toNat : Int)] 5)) := hb.alloc hb.size _
      go_wp2_with fail
      go_roundw
      case rel => exact ⟨k + 1, _, by omega, by go_num, rfl, (by rw [ByteArray.size_append, hsz]; rfl), (show (s ++ ⟨#[x]⟩).data.toList = _ by rw [Htk.out, ByteArray.data_append, Array.toList_append, hs.out]; rfl), hbn⟩
      case measure => simp [intOf]; omega
    · have hk32 : k = 32 := by omega
      have e : d.l.take k = d.l := List.take_of_length_le (by rw [d.h]; omega)
      have hs' := hs.out
      rw [e] at hs'
      have Hs := Lib.hid hs'
      clear hs hs' hsz e hk32
      go_wp2_with fail
      rw [rounds_succ]
      go_wp2_with fail
      go_ret
      exact ⟨s, rfl, Hs.out, bel2 hb1 hb⟩

theorem ids_tail {s : ByteArray} {d : Id32} (h : s.data.toList = 1 :: d.l) : (s.extract 1 s.size).data.toList = d.l := by
  have hs : s.data.toList.length = s.size := Array.length_toList
  rw [ByteArray.data_extract, Array.toList_extract, h]
  have : s.size = 33 := by rw [← hs, h]; simp [d.h]
  rw [this]
  simp [List.extract_eq_take_drop, List.take_of_length_le, d.h]


end Go.Proofs.Ytlonihfhgfmplaa
