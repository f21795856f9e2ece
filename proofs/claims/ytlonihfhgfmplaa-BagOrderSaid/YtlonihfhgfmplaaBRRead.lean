/- The reference of bags: read. -/
import Derived.Test.YtlonihfhgfmplaaBRead
import Derived.Test.YtlonihfhgfmplaaRrI
import Derived.Test.YtlonihfhgfmplaaBRL
namespace Go.Proofs.Ytlonihfhgfmplaa
open Go.RowKit

theorem rr_num4 (w : World) (g : Nat) (l : List UInt8) (e : Int) (h : RrAt w g l e) :
    Calls Try.prog 59 #[.pointer (some ⟨g, 0, none⟩), .int .i64 4] w fun en w' => en = .returned (.int .i64 (numV 4 l e)) ∧ RrStep w g (rawL 4 l e) (rawE 4 l e) w' := rr_num w g 4 l e h (.inr rfl)
theorem rr_num1 (w : World) (g : Nat) (l : List UInt8) (e : Int) (h : RrAt w g l e) :
    Calls Try.prog 59 #[.pointer (some ⟨g, 0, none⟩), .int .i64 1] w fun en w' => en = .returned (.int .i64 (numV 1 l e)) ∧ RrStep w g (rawL 1 l e) (rawE 1 l e) w' := rr_num w g 1 l e h (.inl rfl)

set_option maxRecDepth 100000 in
set_option maxHeartbeats 4000000 in
theorem rread (w : World) (g : Nat) (l : List UInt8) (e0 : Int) (hr0 : RrAt w g l e0) :
    Calls Try.prog 78 #[.pointer (some ⟨g, 0, none⟩)] w fun e w' => ∃ A cap, e = .returned (.slice A (readB l e0).rows.length cap) ∧ Own w' w.heap.size 130 33 A (readB l e0).rows.length cap ((readB l e0).rows.map bRowC) ∧ RrAt w' g (readB l e0).l (readB l e0).e ∧ Keep [g] w w' ∧ Fits (readB l e0).rows ∧ (readB l e0).rows.length < 4294967296 := by
  have c0 := rr_num4 _ _ l e0 hr0
  have hN := numV_lt 4 l e0
  obtain ⟨N, hNe⟩ : ∃ N, numV 4 l e0 = N := ⟨_, rfl⟩
  have hrd : Hid (readB l e0 = loopB N ⟨[], rawL 4 l e0, rawE 4 l e0⟩) := by show _ = _; rw [← hNe]; rfl
  rw [hNe] at c0 hN
  clear hNe
  have hgl := hr0.lt
  go_enter Try.func78, Try.ntmps78
  go_wp2_with fail
  refine c0.mono ?_; rintro e w1 ⟨rfl, hr1, hk1⟩
  have Hk1 := Lib.hid hk1
  have hs01 := hk1.size
  clear c0 hr0 hk1
  go_wp2_with fail
  go_loopw [3, 5] (fun out i wr => ∃ (k : Nat) (R : List BRow) (l1 : List UInt8) (e1 : Int) (A1 : Option Addr) (cap1 : Nat), k ≤ N ∧ i = .int .i64 k ∧ out = .slice A1 R.length cap1 ∧ R.length = k ∧ Own wr w1.heap.size 130 33 A1 R.length cap1 (R.map bRowC) ∧ RrAt wr g l1 e1 ∧ Hid (loopB N ⟨[], rawL 4 l e0, rawE 4 l e0⟩ = loopB (N - k) ⟨R, l1, e1⟩) ∧ Hid (Fits R) ∧ Keep [g] w1 wr) (fun _ i _ => N - (intOf i).toNat)
  case atStart => exact ⟨0, [], _, _, none, 0, Nat.zero_le _, rfl, rfl, rfl, Own.nil _ _ _ _, hr1, (show _ = _ from rfl), (show Fits [] by intro x hx; cases hx), Keep.refl _ _⟩
  case round =>
    clear hr1
    obtain ⟨k, R, l1, e1, A1, cap1, hkN, rfl, rfl, hRk, hown, hr, hlp, hft, hk⟩ := hrel
    have HRk := Lib.hid hRk
    have hRN : R.length ≤ N := by omega
    clear hRk
    have hsz := hk.size
    by_cases hgo : k < N ∧ e1 = 0
    · obtain ⟨hlt, rfl⟩ := hgo
      have hlp2 := hlp.out
      rw [show N - k = (N - (k + 1)) + 1 by omega, loopB_step _ _ rfl] at hlp2
      have Hlp := Lib.hid hlp2
      have hft2 := fits_step hft.out l1 0
      have Hft := Lib.hid hft2
      clear hlp hlp2 hft hft2
      have hgw := hr.lt
      have hgS : g ∉ blk A1 := fun hx => by have := (hown.at_base hx).1; omega
      obtain ⟨c0, c1, _⟩ := rr_cells hr
      go_wp2_with fail
      refine (rr_id _ g l1 0 hr).mono ?_; rintro e w5 ⟨rfl, hr5, hk5⟩
      clear c0 c1 hr
      obtain ⟨dv, hdv⟩ : ∃ dv, idOf (rawV 32 l1 0) = dv := ⟨_, rfl⟩
      have Hdv := Lib.hid hdv
      rw [hdv]
      have h8 := heap_alloc_new w5 (.cells (idC dv) 24)
      have hr6 := hr5.kept (Keep.alloc w5 (.cells (idC dv) 24)) (by simp)
      have hk6 : Keep [g] wr (w5.alloc (.cells (idC dv) 24)) := Keep.trans hk5 ((Keep.alloc w5 (.cells (idC dv) 24)).mono (S' := [g]) (by simp)) (fun x hx => .inl hx)
      have hsz5 := hk5.size
      have hg5 : g < w5.heap.size := hr5.lt
      clear hdv hr5 hk5
      go_upto_region 7 with fail
      obtain ⟨g8, hg8⟩ : ∃ g8, w5.heap.size = g8 := ⟨_, rfl⟩
      rw [hg8] at h8 hsz5 hg5 ⊢
      have Hg8 := Lib.hid hg8
      clear hg8
      generalize w5.alloc (.cells (idC dv) 24) = W at *
      have hg8l : g8 < W.heap.size := (Array.getElem?_eq_some_iff.1 h8).1
      have hne8 : g8 ∉ [g] := by simp; omega
      go_wp2_with fail
      refine (rr_num1 _ g _ _ hr6).mono ?_; rintro e w2 ⟨rfl, hr2, hk2⟩
      have hn2 := numV_lt 1 (rawL 32 l1 0) (rawE 32 l1 0)
      go_wp2_with fail
      refine (rr_raw _ g _ _ _ hr2 (by omega)).mono ?_; rintro e w3 ⟨rfl, hr3', hk3'⟩
      have hE4 : RrAt w3 g (oneL l1 0) (oneE l1 0) := hr3'
      have hk23 : Keep [g] W w3 := Keep.trans hk2 hk3' (fun x hx => .inl hx)
      have h83 := (hk23.block g8 hg8l hne8).trans h8
      obtain ⟨kv, hkv⟩ : ∃ kv, mkB (rawV (numV 1 (rawL 32 l1 0) (rawE 32 l1 0)) (rawL 1 (rawL 32 l1 0) (rawE 32 l1 0)) (rawE 1 (rawL 32 l1 0) (rawE 32 l1 0))) = kv := ⟨_, rfl⟩
      have Hkv := Lib.hid (show txV (rawL 32 l1 0) (rawE 32 l1 0) = kv from hkv)
      rw [hkv]
      have hk111 : Keep [g] wr w3 := Keep.trans hk6 hk23 (fun x hx => .inl hx)
      clear hr2 hr3' hk2 hk3' hkv hn2 hr6 hk6 hk23 h8
      go_upto_region 8 with fail
      obtain ⟨w11', rfl⟩ : ∃ w11' : World, w11' = w3 := ⟨_, rfl⟩
      have hown11 := hown.kept hk111 (fun x hx => by have := (hown.at_base hx).1; simp; omega)
      have hrowI : rowAt w11' g8 0 32 = some (idC dv) := by unfold rowAt; rw [h83]; simp [go_sem]
      have hx : oneB l1 0 = ⟨dv, kv⟩ := by unfold oneB; rw [Hkv.out, Hdv.out]
      obtain ⟨xx, hxx⟩ : ∃ xx : BRow, (⟨dv, kv⟩ : BRow) = xx := ⟨_, rfl⟩
      rw [hx, hxx] at Hft
      have Hxx := Lib.hid (hx.trans hxx)
      have hbld := buildRRow dv kv w11'
      rw [hxx] at hbld
      clear hxx hx hown h83
      have hbx : Below w11'.heap.size w11' (w11'.alloc (.cells (bRowC xx) 130)) := (Below.refl _ _).alloc (Nat.le_refl _) _
      have hown12 := hown11.below hbx
      have hrow12 : rowAt (w11'.alloc (.cells (bRowC xx) 130)) w11'.heap.size 0 33 = some (bRowC xx) := by simp [go_sem]
      have hsz11 : w1.heap.size ≤ w11'.heap.size := by have := hk111.size; omega
      clear hown11
      go_wp2_with (at_builtin; refine L_append einfoRRow rfl hown12 rfl hrow12 (bRowC_one _) (by omega) (by omega) (by simp; omega) ?_; intro A13 cap13 w13 hown13 hk13' hsub13)
      have hk0 : Keep (blk A1) w11' w13 := Keep.trans ((Keep.of_below hbx).mono (S' := blk A1) (by simp)) hk13' (fun x hx => .inl hx)
      have hE13 := hE4.kept hk0 hgS
      have hkf : Keep [g] w1 w13 := Keep.trans (Keep.trans hk hk111 (fun x hx => .inl hx)) hk0 (fun x hx => .inr (by have := (hown12.at_base hx).1; omega))
      rw [show R.map bRowC ++ [bRowC xx] = (R ++ [xx]).map bRowC by simp] at hown13
      have hlen13 : (R ++ [xx]).length = R.length + 1 := by simp
      have Hlen13 := Lib.hid hlen13
      clear hlen13 hk0 hk13' hsub13 hown12 hrow12 hbx hrowI hbld hE4
      go_wp2_with fail
      go_roundw
      case rel => exact ⟨k + 1, R ++ [xx], _, _, A13, cap13, by omega, by go_num, (by rw [Hlen13.out]), (by rw [Hlen13.out, HRk.out]), (by rw [Hlen13.out]; exact hown13), hE13, (show _ = _ by rw [Hlp.out]; unfold stepB; rw [Hxx.out]), Hft, hkf⟩
      case measure => simp [intOf]; omega
    · have hfin : readB l e0 = ⟨R, l1, e1⟩ := by
        rw [hrd.out, hlp.out]
        by_cases he : e1 = 0
        · rw [show N - k = 0 by omega]; rfl
        · exact loopB_stop _ _ he
      have Hfin := Lib.hid hfin
      clear hfin hlp hrd
      by_cases hlt : k < N
      · have he : e1 ≠ 0 := by omega
        have heb : (e1 == 0) = false := by simpa using he
        obtain ⟨c0, c1, _⟩ := rr_cells hr
        clear hgo he
        go_wp2_with fail
        go_ret
        rw [Hfin.out]
        exact ⟨A1, cap1, rfl, hown.mono hs01, hr, Keep.trans Hk1.out hk (fun x hx => .inl hx), hft.out, by dsimp only; omega⟩
      · clear hgo
        go_wp2_with fail
        go_ret
        rw [Hfin.out]
        exact ⟨A1, cap1, rfl, hown.mono hs01, hr, Keep.trans Hk1.out hk (fun x hx => .inl hx), hft.out, by dsimp only; omega⟩

end Go.Proofs.Ytlonihfhgfmplaa
