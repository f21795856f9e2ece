/- Package bag: read. -/
import Derived.Test.YtlonihfhgfmplaaBLd
import Derived.Lib.BufferWrite
namespace Go.Proofs.Ytlonihfhgfmplaa
open Go.RowKit

set_option maxRecDepth 100000 in
theorem bRowC_set32 (d : Id32) (v v' : ByteArray) : (bRowC ⟨d, v⟩).setIfInBounds 32 (.string v') = bRowC ⟨d, v'⟩ := by
  apply Array.ext'; simp [bRowC]
theorem bRowC_set0 (d d' : Id32) (v : ByteArray) : ((bRowC ⟨d, v⟩).toList.take (0 + 0) ++ (idC d').toList ++ (bRowC ⟨d, v⟩).toList.drop (0 + 0 + (idC d').toList.length)).toArray = bRowC ⟨d', v⟩ := by
  apply Array.ext'
  have h1 : (idC d').toList.length = 32 := by simp
  have h2 : (idC d).toList.length = 32 := by simp
  rw [h1]
  have e : (bRowC ⟨d, v⟩).toList = (idC d).toList ++ [.string v] := by simp [bRowC]
  have e' : (bRowC ⟨d', v⟩).toList = (idC d').toList ++ [.string v] := by simp [bRowC]
  rw [e, e']
  simp [List.drop_append, h2]
/-- An id's bytes, or none, copied into a box. -/
theorem copy_id {w : World} {g : Nat} {v : ByteArray} (b : List UInt8) (hb : b.length = 32 ∨ b = []) (ty : TypeId) (c : Nat) (h : w.heap[g]? = some (.cells (bRowC ⟨id0, v⟩) 120 (0, 0))) :
    ∃ w' m, (Builtin.copy_ #[100, 9] ty #[.slice (some ⟨g, 0, none⟩) 32 c, .string (mkB b)]).run Try.prog w = .ok m w' ∧ w'.heap[g]? = some (.cells (bRowC ⟨idOf b, v⟩) 120 (0, 0)) ∧ Keep [g] w w' := by
  rcases hb with hb | hb
  · have hs : (mkB b).size = 32 := by rw [mkB_size, hb]
    have h1 := Go.Lib.run_copy_row_string (P := Try.prog) w 100 9 ty 5 g 0 32 c (mkB b) _ _ Try.underlying100 (by kernel_rfl) h (by omega) (by rw [hs]; simp)
    refine ⟨_, _, h1, ?_, ⟨rfl, rfl, rfl, by simp [World.setRow], fun x _ hx => setRow_other w g x _ (by simpa using hx)⟩⟩
    rw [setRow_heap w g _ _ _ _ h]
    have e3 := bRowC_set0 id0 (idOf b) v
    have e : (idOf b).l = b := by unfold idOf; rw [dif_pos hb]
    have e2 : (idC (idOf b)).toList = Go.Lib.byteCells (mkB b).data.toList := by unfold idC; rw [e]; rfl
    rw [e2] at e3
    have e4 : (Go.Lib.byteCells (mkB b).data.toList).length = 32 := by rw [← e2]; simp
    rw [e4] at e3
    rw [hs]
    simp only [Nat.add_zero] at e3
    rw [← e3]
  · subst hb
    have h1 := Go.Lib.run_copy_empty_string (P := Try.prog) w 100 9 ty 5 (some ⟨g, 0, none⟩) 32 c (mkB []) Try.underlying100 (by kernel_rfl) rfl
    exact ⟨_, _, h1, h, Keep.refl _ _⟩
theorem rd_num4 (w : World) (g : Nat) (l : List UInt8) (e : Int) (h : RdAt w g l e) :
    Calls Try.prog 92 #[.pointer (some ⟨g, 0, none⟩), .int .i64 4] w fun en w' => en = .returned (.int .i64 (numV 4 l e)) ∧ RdStep w g (rawL 4 l e) (rawE 4 l e) w' := rd_num w g 4 l e h (.inr rfl)
theorem rd_num1 (w : World) (g : Nat) (l : List UInt8) (e : Int) (h : RdAt w g l e) :
    Calls Try.prog 92 #[.pointer (some ⟨g, 0, none⟩), .int .i64 1] w fun en w' => en = .returned (.int .i64 (numV 1 l e)) ∧ RdStep w g (rawL 1 l e) (rawE 1 l e) w' := rd_num w g 1 l e h (.inl rfl)
theorem rd_raw32 (w : World) (g : Nat) (l : List UInt8) (e : Int) (h : RdAt w g l e) :
    Calls Try.prog 93 #[.pointer (some ⟨g, 0, none⟩), .int .i64 32] w fun en w' => en = .returned (.string (mkB (rawV 32 l e))) ∧ RdStep w g (rawL 32 l e) (rawE 32 l e) w' := rd_raw w g 32 l e h (by omega)

set_option maxRecDepth 100000 in
set_option maxHeartbeats 4000000 in
theorem bread (w : World) (g : Nat) (l : List UInt8) (e0 : Int) (hr0 : RdAt w g l e0) :
    Calls Try.prog 74 #[.pointer (some ⟨g, 0, none⟩)] w fun e w' => ∃ A cap, e = .returned (.slice A (readB l e0).rows.length cap) ∧ Own w' w.heap.size 120 33 A (readB l e0).rows.length cap ((readB l e0).rows.map bRowC) ∧ RdAt w' g (readB l e0).l (readB l e0).e ∧ Keep [g] w w' ∧ Fits (readB l e0).rows ∧ (readB l e0).rows.length < 4294967296 := by
  have c0 := rd_num4 _ _ l e0 hr0
  have hN := numV_lt 4 l e0
  obtain ⟨N, hNe⟩ : ∃ N, numV 4 l e0 = N := ⟨_, rfl⟩
  have hrd : Hid (readB l e0 = loopB N ⟨[], rawL 4 l e0, rawE 4 l e0⟩) := by show _ = _; rw [← hNe]; rfl
  rw [hNe] at c0 hN
  clear hNe
  have hgl := hr0.lt
  go_enter Try.func74, Try.ntmps74
  go_wp2_with fail
  refine c0.mono ?_; rintro e w1 ⟨rfl, hr1, hk1⟩
  have Hk1 := Lib.hid hk1
  have hs01 := hk1.size
  clear c0 hr0 hk1
  go_wp2_with fail
  go_loopw [3, 5] (fun out i wr => ∃ (k : Nat) (R : List BRow) (l1 : List UInt8) (e1 : Int) (A1 : Option Addr) (cap1 : Nat), k ≤ N ∧ i = .int .i64 k ∧ out = .slice A1 R.length cap1 ∧ R.length = k ∧ Own wr w1.heap.size 120 33 A1 R.length cap1 (R.map bRowC) ∧ RdAt wr g l1 e1 ∧ Hid (loopB N ⟨[], rawL 4 l e0, rawE 4 l e0⟩ = loopB (N - k) ⟨R, l1, e1⟩) ∧ Hid (Fits R) ∧ Keep [g] w1 wr) (fun _ i _ => N - (intOf i).toNat)
  case atStart => exact ⟨0, [], _, _, none, 0, Nat.zero_le _, rfl, rfl, rfl, Own.nil _ _ _ _, hr1, (show _ = _ from rfl), (show Fits [] by intro x hx; cases hx), Keep.refl _ _⟩
  case round =>
    clear hr1
    obtain ⟨k, R, l1, e1, A1, cap1, hkN, rfl, rfl, hRk, hown, hr, hlp, hft, hk⟩ := hrel
    have HRk := Lib.hid hRk
    have hRN : R.length ≤ N := by omega
    clear hRk
    have hsz := hk.size
    by_cases hgo : k < N ∧ e1 = 0
    · obtain ⟨hlt, rfl⟩ := hgo
      have hlp2 := hlp.out
      rw [show N - k = (N - (k + 1)) + 1 by omega, loopB_step _ _ rfl] at hlp2
      have Hlp := Lib.hid hlp2
      have hft2 := fits_step hft.out l1 0
      have Hft := Lib.hid hft2
      clear hlp hlp2 hft hft2
      have hgw := hr.lt
      have hgS : g ∉ blk A1 := fun hx => by have := (hown.at_base hx).1; omega
      have h8 := heap_alloc_new wr (.cells (bRowC bRow0) 120)
      have hr3 := hr.kept (Keep.alloc wr (.cells (bRowC bRow0) 120)) (by simp)
      have hk3 : Keep [] wr (wr.alloc (.cells (bRowC bRow0) 120)) := Keep.alloc _ _
      go_wp2_with fail
      refine (rd_err _ g l1 0 hr).mono ?_; rintro e w5 ⟨rfl, rfl⟩
      go_upto_region 7 with fail
      obtain ⟨g8, hg8⟩ : ∃ g8, wr.heap.size = g8 := ⟨_, rfl⟩
      rw [hg8] at h8 ⊢
      have hgg : g < g8 := by omega
      have Hg8 := Lib.hid hg8
      clear hg8 hr
      generalize wr.alloc (.cells (bRowC bRow0) 120) = W at *
      have hg8l : g8 < W.heap.size := (Array.getElem?_eq_some_iff.1 h8).1
      have hne8 : g8 ∉ [g] := by simp; omega
      have hng : g ∉ [g8] := by simp; omega
      have c10 := rd_raw32 W.drew g _ _ (hr3.kept (Keep.drew W) (by simp))
      refine wp_region_lex (Kp [g, g8] W) false (by kernel_rfl) (by kernel_rfl) (by kernel_rfl) (kp_drew [g, g8] W) ?_
      have hne := kp_some [g, g8] W
      have hS := kp_drew [g, g8] W
      repeat (refine wpLx_loose ?_ ?_; (focus (simp only [chainOp]; done)); intro K hK; go_simp; refine hK _ ?_; clear hK K)
      refine wpLx_chain ?_ ?_ ?_
      focus (exact hS)
      focus (simp only [chainOp]; done)
      intro K hK
      go_simp
      refine c10.mono ?_
      rintro e w10 ⟨rfl, hE10, hk10⟩
      replace hS := kp_next hS hk10 (by simp)
      have h810 : w10.heap[g8]? = _ := (hk10.block g8 hg8l hne8).trans h8
      refine ⟨_, rfl, hS, hK _ _ ?_⟩
      clear hK K c10
      obtain ⟨w11, m11, hcp, h811, hk11⟩ := copy_id (v := ⟨#[]⟩) (rawV 32 l1 0) (rawV_32 _ _) 3 32 h810
      refine wpLx_chain ?_ ?_ ?_
      focus (exact hS)
      focus (simp only [chainOp]; done)
      intro K hK
      go_simp
      refine step_keep (kp_next hS hk11 (by simp)) (fun hS2 => ?_)
      refine hK _ _ ?_
      clear hK K
      refine wpLx_nil ?_
      intro hS
      have hk911 : Keep [g, g8] W w11 := hS2
      have hE11 := hE10.kept hk11 hng
      have hg811 : g8 < w11.heap.size := (Array.getElem?_eq_some_iff.1 h811).1
      clear hE10 hk10 hk11 hcp hS hS2 hne h8 h810 hr3
      go_wp2_with fail
      refine (rd_num1 _ g _ _ hE11).mono ?_; rintro e w2 ⟨rfl, hr2, hk2⟩
      have hn2 := numV_lt 1 (rawL 32 l1 0) (rawE 32 l1 0)
      go_wp2_with fail
      refine (rd_raw _ g _ _ _ hr2 (by omega)).mono ?_; rintro e w3 ⟨rfl, hr3', hk3'⟩
      have hE2 : RdAt w3 g (oneL l1 0) (oneE l1 0) := hr3'
      have hk23 : Keep [g] w11 w3 := Keep.trans hk2 hk3' (fun x hx => .inl hx)
      have h83 := (hk23.block g8 hg811 hne8).trans h811
      obtain ⟨kv, hkv⟩ : ∃ kv, mkB (rawV (numV 1 (rawL 32 l1 0) (rawE 32 l1 0)) (rawL 1 (rawL 32 l1 0) (rawE 32 l1 0)) (rawE 1 (rawL 32 l1 0) (rawE 32 l1 0))) = kv := ⟨_, rfl⟩
      have Hkv := Lib.hid (show txV (rawL 32 l1 0) (rawE 32 l1 0) = kv from hkv)
      rw [hkv]
      have x0 : w3.cell? ⟨g8, 32, none⟩ = some (.string ⟨#[]⟩) := by rw [cell_of_row w3 g8 _ _ _ _ h83]; simp [go_sem]
      have f0 : w3.frozen? ⟨g8, 32, none⟩ = false := by simp [World.frozen?, h83]
      have h84 := heap_setCell_same h83 32 (.string kv)
      rw [bRowC_set32] at h84
      have hks := Keep.setCell w3 ⟨g8, 32, none⟩ (.string kv)
      have hE4 := hE2.kept hks hng
      have hk14 : Keep [g, g8] W (w3.setCell ⟨g8, 32, none⟩ (.string kv)) := Keep.trans (Keep.trans hk911 (hk23.mono (S' := [g, g8]) (by simp)) (fun x hx => .inl hx)) (hks.mono (S' := [g, g8]) (by simp)) (fun x hx => .inl hx)
      clear hr2 hr3' hk2 hk3' hkv hE2 hn2 h83 hks hk23 h811 hE11 hk911
      go_upto_region 9 with fail
      generalize w3.setCell ⟨g8, 32, none⟩ (.string kv) = w11' at *
      clear x0 f0
      have hg8w := Hg8.out
      have hk011 : Keep [g, g8] wr w11' := Keep.trans (hk3.mono (S' := [g, g8]) (by simp)) hk14 (fun x hx => .inl hx)
      have hA1 : ∀ x ∈ blk A1, x ∉ [g, g8] := fun x hx => by have := hown.at_base hx; simp; omega
      have hown11 := hown.kept hk011 hA1
      have hk111 : Keep [g] wr w11' := hk011.mono (by intro x hx; simp at hx; rcases hx with rfl | rfl <;> simp; omega)
      have hx : oneB l1 0 = ⟨idOf (rawV 32 l1 0), kv⟩ := by unfold oneB; rw [Hkv.out]
      rw [← hx] at h84
      obtain ⟨xx, hxx⟩ : ∃ xx, oneB l1 0 = xx := ⟨_, rfl⟩
      rw [hxx] at h84 Hft
      have Hxx := Lib.hid hxx
      clear hxx hx hown hA1
      have hrow11 : rowAt w11' g8 0 33 = some (bRowC xx) := by unfold rowAt; rw [h84]; simp [go_sem]
      have hbx : Below w11'.heap.size w11' (w11'.alloc (.cells (bRowC xx) 120)) := (Below.refl _ _).alloc (Nat.le_refl _) _
      have hown12 := hown11.below hbx
      have hrow12 : rowAt (w11'.alloc (.cells (bRowC xx) 120)) w11'.heap.size 0 33 = some (bRowC xx) := by simp [go_sem]
      have hsz11 : w1.heap.size ≤ w11'.heap.size := by have := hk011.size; omega
      clear hown11 h84 hk011 hk14 hk3
      go_wp2_with (at_builtin; refine L_append einfoBRow rfl hown12 rfl hrow12 (bRowC_one _) (by omega) (by omega) (by simp; omega) ?_; intro A13 cap13 w13 hown13 hk13' hsub13)
      have hk0 : Keep (blk A1) w11' w13 := Keep.trans ((Keep.of_below hbx).mono (S' := blk A1) (by simp)) hk13' (fun x hx => .inl hx)
      have hE13 := hE4.kept hk0 hgS
      have hkf : Keep [g] w1 w13 := Keep.trans (Keep.trans hk hk111 (fun x hx => .inl hx)) hk0 (fun x hx => .inr (by have := (hown12.at_base hx).1; omega))
      rw [show R.map bRowC ++ [bRowC xx] = (R ++ [xx]).map bRowC by simp] at hown13
      have hlen13 : (R ++ [xx]).length = R.length + 1 := by simp
      have Hlen13 := Lib.hid hlen13
      clear hlen13 hk0 hk13' hsub13 hown12 hrow12 hbx hrow11 hE4
      go_wp2_with fail
      go_roundw
      case rel => exact ⟨k + 1, R ++ [xx], _, _, A13, cap13, by omega, by go_num, (by rw [Hlen13.out]), (by rw [Hlen13.out, HRk.out]), (by rw [Hlen13.out]; exact hown13), hE13, (show _ = _ by rw [Hlp.out]; unfold stepB; rw [Hxx.out]), Hft, hkf⟩
      case measure => simp [intOf]; omega
    · have hfin : readB l e0 = ⟨R, l1, e1⟩ := by
        rw [hrd.out, hlp.out]
        by_cases he : e1 = 0
        · rw [show N - k = 0 by omega]; rfl
        · exact loopB_stop _ _ he
      have Hfin := Lib.hid hfin
      clear hfin hlp hrd
      by_cases hlt : k < N
      · have he : e1 ≠ 0 := by omega
        have heb : (e1 == 0) = false := by simpa using he
        clear hgo he
        go_wp2_with fail
        refine (rd_err _ g l1 e1 hr).mono ?_; rintro e w5 ⟨rfl, rfl⟩
        go_wp2_with fail
        go_ret
        rw [Hfin.out]
        exact ⟨A1, cap1, rfl, hown.mono hs01, hr, Keep.trans Hk1.out hk (fun x hx => .inl hx), hft.out, by dsimp only; omega⟩
      · clear hgo
        go_wp2_with fail
        go_ret
        rw [Hfin.out]
        exact ⟨A1, cap1, rfl, hown.mono hs01, hr, Keep.trans Hk1.out hk (fun x hx => .inl hx), hft.out, by dsimp only; omega⟩

end Go.Proofs.Ytlonihfhgfmplaa
