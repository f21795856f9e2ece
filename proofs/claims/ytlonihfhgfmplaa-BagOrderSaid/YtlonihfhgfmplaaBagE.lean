/- Package bag: Tags, Has. -/
import Derived.Test.YtlonihfhgfmplaaBagD
namespace Go.Proofs.Ytlonihfhgfmplaa
open Go.RowKit

theorem einfoId : ElemInfo Try.prog 63 24 32 32 :=
  .of (z := .agg (idC id0)) Try.underlying63 (by kernel_rfl) (by kernel_rfl) (by kernel_rfl) (idC_size _) (by omega)
@[go_sem ↓] theorem bsId_rw (n : Nat) (parts : Array (Nat × Value)) : Instr.buildSlice 63 n parts = bsS 63 n parts := rfl
@[go_sem] theorem bsId_run (w : World) (x : Id32) : (bsS 63 1 #[(0, .agg (idC x))]).run Try.prog w = .ok (.slice (some ⟨w.heap.size, 0, none⟩) 1 1) (w.alloc (.cells (idC x) 24)) :=
  run_bsS1 einfoId (by omega) w (idC x) (idC_size x)

theorem tagsOf_take (L : List BRow) (v : ByteArray) (k : Nat) (hk : k < L.length) : tagsOf (L.take (k + 1)) v = if (L[k]).val = v then tagsOf (L.take k) v ++ [(L[k]).tag] else tagsOf (L.take k) v := by
  unfold tagsOf
  rw [List.take_add_one, List.getElem?_eq_getElem hk, Option.toList_some, List.filter_append, List.map_append]
  split
  · rename_i h; rw [List.filter_cons, if_pos (by simpa using h)]; rfl
  · rename_i h; rw [List.filter_cons, if_neg (by simpa using h)]; simp
theorem tagsOf_len (L : List BRow) (v : ByteArray) : (tagsOf L v).length ≤ L.length := by
  unfold tagsOf; rw [List.length_map]; exact List.length_filter_le _ _

theorem btags_nil (v : ByteArray) (w : World) : Calls Try.prog 31 #[.pointer none, .string v] w fun e w' => e = .returned (.slice none 0 0) ∧ w = w' := by
  go_enter Try.func31, Try.ntmps31
  go_wp2_with fail
  refine (bnone_nil _).mono ?_; rintro e w' ⟨rfl, rfl⟩
  go_wp2_with fail
  go_ret
  exact ⟨rfl, rfl⟩
theorem btags_zero (v : ByteArray) (w : World) (g : Nat) (h : w.cell? ⟨g, 0, none⟩ = some (.map none)) : Calls Try.prog 31 #[.pointer (some ⟨g, 0, none⟩), .string v] w fun e w' => e = .returned (.slice none 0 0) ∧ w = w' := by
  go_enter Try.func31, Try.ntmps31
  go_wp2_with fail
  refine (bnone_zero _ _ h).mono ?_; rintro e w' ⟨rfl, rfl⟩
  go_wp2_with fail
  go_ret
  exact ⟨rfl, rfl⟩

set_option maxRecDepth 100000 in
set_option maxHeartbeats 2000000 in
theorem btags (v : ByteArray) (w : World) (g bl bg : Nat) (L G : List BRow) (h : BagAt w g bl bg L G) (hn : L.length ≤ 1000000) :
    Calls Try.prog 31 #[.pointer (some ⟨g, 0, none⟩), .string v] w fun e w' => ∃ A cap, e = .returned (.slice A (tagsOf L v).length cap) ∧ Own w' w.heap.size 24 32 A (tagsOf L v).length cap ((tagsOf L v).map idC) ∧ Below w.heap.size w w' := by
  have hc := h.cell0
  go_enter Try.func31, Try.ntmps31
  go_wp2_with fail
  refine (bnone_live _ _ _ hc).mono ?_; rintro e w' ⟨rfl, rfl⟩
  go_wp2_with fail
  refine (bsorted _ _ _ h.live h.risL hn).mono ?_; rintro e w1 ⟨RA, rc, rfl, hrow, hb⟩
  have hsl := hrow.slr
  have haddr := hrow.addr
  clear hrow hc
  go_wp2_with fail
  go_loopw [5, 16] (fun out i wr => ∃ (k : Nat) (A : Option Addr) (cap : Nat), k ≤ L.length ∧ i = .int .i64 k ∧ out = .slice A (tagsOf (L.take k) v).length cap ∧ Own wr w1.heap.size 24 32 A (tagsOf (L.take k) v).length cap ((tagsOf (L.take k) v).map idC) ∧ Below w1.heap.size w1 wr) (fun _ i _ => L.length - (intOf i).toNat)
  case atStart => exact ⟨0, none, 0, Nat.zero_le _, rfl, rfl, Own.nil _ _ _ _, Below.refl _ _⟩
  case round =>
    obtain ⟨k, A, cap, hk, rfl, rfl, hown, hbr⟩ := hrel
    by_cases hlt : k < L.length
    · obtain ⟨q, o, rfl, hr⟩ := (hsl.below hbr).at_ hlt
      obtain rfl : o = 0 := by
        rcases haddr with e | ⟨g', e⟩
        · cases e
        · injection e with e; injection e
      rw [Nat.zero_add, List.getElem_map] at hr
      have htk := tagsOf_take L v k hlt
      have htl : (tagsOf (L.take k) v).length ≤ 1000000 := by have := tagsOf_len (L.take k) v; simp at this; omega
      obtain ⟨x, hx⟩ : ∃ x, L[k]'hlt = x := ⟨_, rfl⟩
      rw [hx] at hr htk
      clear hx
      obtain ⟨T0, hT0⟩ : ∃ T0, tagsOf (L.take k) v = T0 := ⟨_, rfl⟩
      rw [hT0] at htk htl hown ⊢
      have HT0 := Lib.hid hT0
      clear hT0
      have hbx : Below wr.heap.size wr (wr.alloc (.cells (bRowC x) 120)) := (Below.refl _ _).alloc (Nat.le_refl _) _
      have hszr := hbr.size
      by_cases hv : x.val = v
      · rw [if_pos hv] at htk
        have Htk := Lib.hid htk
        have ht : (x.val.toList == v.toList) = true := by rw [hv]; simp
        clear htk hv
        have hby : Below wr.heap.size wr ((wr.alloc (.cells (bRowC x) 120)).alloc (.cells (idC x.tag) 24)) := hbx.alloc (by simp) _
        have hown2 := hown.below hby
        have hrow2 : rowAt ((wr.alloc (.cells (bRowC x) 120)).alloc (.cells (idC x.tag) 24)) (wr.heap.size + 1) 0 32 = some (idC x.tag) := by simp [go_sem]
        go_wp2_with (at_builtin; refine L_append einfoId rfl hown2 rfl hrow2 (idC_one _) (by omega) (by omega) (by simp; omega) ?_; intro A' cap' w2 hownA hkA hsubA)
        have hbA : Below w1.heap.size w1 w2 := hbr.trans ((hby.mono hszr).trans (hkA.below (B := w1.heap.size) (by simp; omega) fun y hy => (hown.at_base hy).1))
        go_wp2_with fail
        go_roundw
        case rel => exact ⟨k + 1, A', cap', by omega, by go_num, by rw [Htk.out]; simp, by rw [Htk.out]; simpa using hownA, hbA⟩
        case measure => simp [intOf]; omega
      · rw [if_neg hv] at htk
        have Htk := Lib.hid htk
        have ht : (x.val.toList == v.toList) = false := by rw [beq_eq_false_iff_ne]; exact fun e => hv (toList_inj.1 e)
        clear htk hv
        go_wp2_with fail
        go_roundw
        case rel => exact ⟨k + 1, A, cap, by omega, by go_num, by rw [Htk.out], by rw [Htk.out]; exact hown.below hbx, hbr.trans (hbx.mono hszr)⟩
        case measure => simp [intOf]; omega
    · go_wp2_with fail
      go_ret
      have e : L.take k = L := List.take_of_length_le (by omega)
      rw [e] at hown ⊢
      exact ⟨A, cap, rfl, hown.mono hb.size, bel2 hb hbr⟩

theorem bhas_nil (v : ByteArray) (w : World) : Calls Try.prog 33 #[.pointer none, .string v] w fun e w' => e = .returned (.bool false) ∧ w = w' := by
  go_enter Try.func33, Try.ntmps33
  go_wp2_with fail
  refine (btags_nil _ _).mono ?_; rintro e w' ⟨rfl, rfl⟩
  go_wp2_with fail
  go_ret
  exact ⟨rfl, rfl⟩
theorem bhas_zero (v : ByteArray) (w : World) (g : Nat) (h : w.cell? ⟨g, 0, none⟩ = some (.map none)) : Calls Try.prog 33 #[.pointer (some ⟨g, 0, none⟩), .string v] w fun e w' => e = .returned (.bool false) ∧ w = w' := by
  go_enter Try.func33, Try.ntmps33
  go_wp2_with fail
  refine (btags_zero _ _ _ h).mono ?_; rintro e w' ⟨rfl, rfl⟩
  go_wp2_with fail
  go_ret
  exact ⟨rfl, rfl⟩
theorem bhas (v : ByteArray) (w : World) (g bl bg : Nat) (L G : List BRow) (h : BagAt w g bl bg L G) (hn : L.length ≤ 1000000) :
    Calls Try.prog 33 #[.pointer (some ⟨g, 0, none⟩), .string v] w fun e w' => e = .returned (.bool (decide (0 < (tagsOf L v).length))) ∧ Below w.heap.size w w' := by
  have c1 := btags v w g bl bg L G h hn
  generalize (tagsOf L v) = T at c1 ⊢
  go_enter Try.func33, Try.ntmps33
  go_wp2_with fail
  refine c1.mono ?_; rintro e w' ⟨A, cap, rfl, _, hb⟩
  go_wp2_with fail
  go_ret
  exact ⟨ret_bool (by simp), hb⟩

end Go.Proofs.Ytlonihfhgfmplaa
