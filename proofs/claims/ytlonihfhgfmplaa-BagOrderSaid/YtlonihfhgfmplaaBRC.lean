/- The reference of bags: Live, Tags, List; what a call is told. -/
import Derived.Test.YtlonihfhgfmplaaBRB
namespace Go.Proofs.Ytlonihfhgfmplaa
open Go.RowKit

def liveR (X G : List BRow) : List BRow := (sortC cmpRow X).filter fun x => decide (x ∉ G)
theorem liveR_len (X G : List BRow) : (liveR X G).length ≤ X.length := Nat.le_trans (List.length_filter_le _ _) (sortC_length X)
theorem filter_take {α : Type} (p : α → Bool) (L : List α) (k : Nat) (hk : k < L.length) : (L.take (k + 1)).filter p = if p L[k] then (L.take k).filter p ++ [L[k]] else (L.take k).filter p := by
  rw [List.take_add_one, List.getElem?_eq_getElem hk, Option.toList_some, List.filter_append]
  split
  · rename_i h; rw [List.filter_cons, if_pos h]; rfl
  · rename_i h; rw [List.filter_cons, if_neg h]; simp

set_option maxRecDepth 100000 in
set_option maxHeartbeats 2000000 in
theorem rlive_in (w : World) (g : Nat) (X G : List BRow) (h : RefIn w g X G) (hX : X.length ≤ 100000) (hG : G.length ≤ 100000) :
    Calls Try.prog 70 #[.pointer (some ⟨g, 0, none⟩)] w fun e w' => ∃ A cap, e = .returned (.slice A (liveR X G).length cap) ∧ OwnR w' w.heap.size A cap (liveR X G) ∧ Below w.heap.size w w' := by
  have hgl := h.lt
  obtain ⟨A, n, cap, A', n', cap', hg, h1, h2⟩ := h
  have hn := h1.len
  have hn' := h2.len
  have hc0 : w.cell? ⟨g, 0, none⟩ = some (.slice A n cap) := by rw [cell_of_row w g 0 _ _ _ hg]; rfl
  have hsl : (sortC cmpRow X).length ≤ 100000 := Nat.le_trans (sortC_length X) hX
  have c1 := rsorted w A n cap X h1 (by omega)
  have hlv : liveR X G = (sortC cmpRow X).filter fun x => decide (x ∉ G) := rfl
  obtain ⟨Z, hZ⟩ : ∃ Z, sortC cmpRow X = Z := ⟨_, rfl⟩
  rw [hZ] at c1 hsl hlv
  have Hlv := Lib.hid hlv
  have Hn' := Lib.hid hn'
  have hnb : n' ≤ 100000 := by omega
  clear hlv hZ hn hn'
  go_enter Try.func70, Try.ntmps70
  go_wp2_with fail
  refine c1.mono ?_; rintro e w1 ⟨ZA, zc, rfl, hownZ, hb1⟩
  have hslZ : RowsIn w1 ZA Z.length Z := hownZ.slr
  have hg1 : w1.heap[g]? = some (.cells #[.slice A n cap, .slice A' n' cap'] 74 (0, 0)) := (hb1.block g hgl).trans hg
  have hG1 : RowsIn w1 A' n' G := SlR.below h2 hb1
  clear hownZ c1 hc0
  go_wp2_with fail
  go_loopw [3, 5] (fun out i wr => ∃ (k : Nat) (A1 : Option Addr) (cap1 : Nat), k ≤ Z.length ∧ i = .int .i64 k ∧ out = .slice A1 ((Z.take k).filter fun x => decide (x ∉ G)).length cap1 ∧ OwnR wr w1.heap.size A1 cap1 ((Z.take k).filter fun x => decide (x ∉ G)) ∧ Below w1.heap.size w1 wr) (fun _ i _ => Z.length - (intOf i).toNat)
  case atStart => exact ⟨0, none, 0, Nat.zero_le _, rfl, rfl, Own.nil _ _ _ _, Below.refl _ _⟩
  case round =>
    obtain ⟨k, A1, cap1, hk, rfl, rfl, hown, hb⟩ := hrel
    by_cases hlt : k < Z.length
    · obtain ⟨q, o, rfl, hr, _, _⟩ := RowsIn.get (SlR.below hslZ hb) hlt hlt
      have hgr : wr.heap[g]? = some (.cells #[.slice A n cap, .slice A' n' cap'] 74 (0, 0)) := (hb.block g (by have := hb1.size; omega)).trans hg1
      have hc1 : wr.cell? ⟨g, 1, none⟩ = some (.slice A' n' cap') := by rw [cell_of_row wr g 1 _ _ _ hgr]; rfl
      have hGr : RowsIn wr A' n' G := SlR.below hG1 hb
      have htk := filter_take (fun x => decide (x ∉ G)) Z k hlt
      have hfl : ((Z.take k).filter fun x => decide (x ∉ G)).length ≤ 100000 := by
        have := List.length_filter_le (fun x => decide (x ∉ G)) (Z.take k)
        rw [List.length_take] at this; omega
      obtain ⟨x, hx⟩ : ∃ x, Z[k]'hlt = x := ⟨_, rfl⟩
      rw [hx] at hr htk
      obtain ⟨F, hF⟩ : ∃ F, (Z.take k).filter (fun x => decide (x ∉ G)) = F := ⟨_, rfl⟩
      rw [hF] at hown hfl htk ⊢
      have HF := Lib.hid hF
      clear hx hF hgr
      have hsz := hb.size
      have c2 := rin wr.drew A' n' cap' G x hGr (by omega)
      by_cases hin : x ∈ G
      · rw [decide_eq_true hin] at c2
        rw [if_neg (by simp [hin])] at htk
        have Htk := Lib.hid htk
        clear htk hin
        go_upto_region 6 with fail
        refine wp_region_lex (Bel wr) false (by kernel_rfl) (by kernel_rfl) (by kernel_rfl) (bel_drew wr) ?_
        have hne := bel_some wr
        have hS := bel_drew wr
        have b1 := sub_row hr; have b2 := sub_cell hc1
        repeat (refine wpLx_loose ?_ ?_; (focus (simp only [chainOp]; done)); intro K hK; go_simp; refine hK _ ?_; clear hK K)
        refine wpLx_chain ?_ ?_ ?_
        focus (exact hS)
        focus (simp only [chainOp]; done)
        intro K hK
        go_simp
        refine (c2).mono ?_
        rintro e w' ⟨rfl, hb⟩
        replace hS := bel_next hS hb
        refine ⟨_, rfl, hS, hK _ _ ?_⟩
        clear hK K hb
        repeat (refine wpLx_loose ?_ ?_; (focus (simp only [chainOp]; done)); intro K hK; go_simp; refine hK _ ?_; clear hK K)
        refine wpLx_nil ?_
        intro hS
        have hS' : Below wr.heap.size wr w' := hS
        have hbz := bel2 hb hS'
        have hown1 := hown.below hS'
        clear b1 b2 hne hS c2 hr hc1 hown
        go_wp2_with fail
        go_roundw
        case rel => exact ⟨k + 1, A1, cap1, by omega, by go_num, by rw [Htk.out], by rw [Htk.out]; exact hown1, hbz⟩
        case measure => simp [intOf]; omega
      · rw [decide_eq_false hin] at c2
        rw [if_pos (by simp [hin])] at htk
        have Htk := Lib.hid htk
        clear htk hin
        go_upto_region 6 with fail
        refine wp_region_lex (Bel wr) false (by kernel_rfl) (by kernel_rfl) (by kernel_rfl) (bel_drew wr) ?_
        have hne := bel_some wr
        have hS := bel_drew wr
        have b1 := sub_row hr; have b2 := sub_cell hc1
        repeat (refine wpLx_loose ?_ ?_; (focus (simp only [chainOp]; done)); intro K hK; go_simp; refine hK _ ?_; clear hK K)
        refine wpLx_chain ?_ ?_ ?_
        focus (exact hS)
        focus (simp only [chainOp]; done)
        intro K hK
        go_simp
        refine (c2).mono ?_
        rintro e w' ⟨rfl, hb⟩
        replace hS := bel_next hS hb
        refine ⟨_, rfl, hS, hK _ _ ?_⟩
        clear hK K hb
        repeat (refine wpLx_loose ?_ ?_; (focus (simp only [chainOp]; done)); intro K hK; go_simp; refine hK _ ?_; clear hK K)
        refine wpLx_nil ?_
        intro hS
        have hS' : Below wr.heap.size wr w' := hS
        have hbz := bel2 hb hS'
        have hown1 := hown.below hS'
        have hr' : rowAt w' q (o + k * 33) 33 = some (bRowC x) := (rowAt_of_block (hS'.block q (rowAt_lt hr)) _ _).trans hr
        have hsz' := hS'.size
        clear b1 b2 hne hS c2 hr hc1 hown
        have hbx : Below w'.heap.size w' (w'.alloc (.cells (bRowC x) 130)) := (Below.refl _ _).alloc (Nat.le_refl _) _
        have hown2 := hown1.below hbx
        have hrow2 : rowAt (w'.alloc (.cells (bRowC x) 130)) w'.heap.size 0 33 = some (bRowC x) := by simp [go_sem]
        go_wp2_with (at_builtin; refine L_append einfoRRow rfl hown2 rfl hrow2 (bRowC_one _) (by omega) (by omega) (by simp; omega) ?_; intro A2 cap2 w2 hownA hkA hsubA)
        have hbA : Below w1.heap.size w1 w2 := hbz.trans ((hbx.mono (by omega)).trans (hkA.below (B := w1.heap.size) (by simp; omega) fun y hy => (hown1.at_base hy).1))
        go_wp2_with fail
        go_roundw
        case rel => exact ⟨k + 1, A2, cap2, by omega, by go_num, by rw [Htk.out]; simp, by rw [Htk.out]; show Own _ _ _ _ _ _ _ _; rw [List.map_append, List.length_append]; exact hownA, hbA⟩
        case measure => simp [intOf]; omega
    · have hke : Z.take k = Z := List.take_of_length_le (by omega)
      rw [hke, ← Hlv.out] at hown ⊢
      clear hke
      obtain ⟨F, hF⟩ : ∃ F, liveR X G = F := ⟨_, rfl⟩
      rw [hF] at hown ⊢
      have HF := Lib.hid hF
      clear hF
      go_wp2_with fail
      go_ret
      exact ⟨A1, cap1, by rw [HF.out]; rfl, by rw [HF.out]; exact hown.mono hb1.size, bel2 hb1 hb⟩

theorem rlive (w : World) (g : Nat) (X G : List BRow) (h : RefAt w g X G) (hX : X.length ≤ 100000) (hG : G.length ≤ 100000) :
    Calls Try.prog 70 #[.pointer (some ⟨g, 0, none⟩)] w fun e w' => ∃ A cap, e = .returned (.slice A (liveR X G).length cap) ∧ OwnR w' w.heap.size A cap (liveR X G) ∧ Below w.heap.size w w' := rlive_in w g X G h.refIn hX hG

set_option maxRecDepth 100000 in
set_option maxHeartbeats 2000000 in
theorem rtags (v : ByteArray) (w : World) (g : Nat) (X G : List BRow) (h : RefAt w g X G) (hX : X.length ≤ 100000) (hG : G.length ≤ 100000) :
    Calls Try.prog 39 #[.pointer (some ⟨g, 0, none⟩), .string v] w fun e w' => ∃ A cap, e = .returned (.slice A (tagsOf (liveR X G) v).length cap) ∧ Own w' w.heap.size 24 32 A (tagsOf (liveR X G) v).length cap ((tagsOf (liveR X G) v).map idC) ∧ Below w.heap.size w w' := by
  have c1 := rlive w g X G h hX hG
  have hll := liveR_len X G
  obtain ⟨L, hL⟩ : ∃ L, liveR X G = L := ⟨_, rfl⟩
  rw [hL] at c1 hll ⊢
  clear hL h
  go_enter Try.func39, Try.ntmps39
  go_wp2_with fail
  refine c1.mono ?_; rintro e w1 ⟨RA, rc, rfl, hrow, hb⟩
  have hsl := hrow.slr
  have haddr := hrow.addr
  clear hrow c1
  go_wp2_with fail
  go_loopw [5, 7] (fun out i wr => ∃ (k : Nat) (A : Option Addr) (cap : Nat), k ≤ L.length ∧ i = .int .i64 k ∧ out = .slice A (tagsOf (L.take k) v).length cap ∧ Own wr w1.heap.size 24 32 A (tagsOf (L.take k) v).length cap ((tagsOf (L.take k) v).map idC) ∧ Below w1.heap.size w1 wr) (fun _ i _ => L.length - (intOf i).toNat)
  case atStart => exact ⟨0, none, 0, Nat.zero_le _, rfl, rfl, Own.nil _ _ _ _, Below.refl _ _⟩
  case round =>
    obtain ⟨k, A, cap, hk, rfl, rfl, hown, hbr⟩ := hrel
    by_cases hlt : k < L.length
    · obtain ⟨q, o, rfl, _, hrt, hrv⟩ := RowsIn.get (SlR.below hsl hbr) hlt hlt
      have htk := tagsOf_take L v k hlt
      have htl : (tagsOf (L.take k) v).length ≤ 1000000 := by have := tagsOf_len (L.take k) v; simp at this; omega
      obtain ⟨x, hx⟩ : ∃ x, L[k]'hlt = x := ⟨_, rfl⟩
      rw [hx] at hrt hrv htk
      clear hx
      obtain ⟨T0, hT0⟩ : ∃ T0, tagsOf (L.take k) v = T0 := ⟨_, rfl⟩
      rw [hT0] at htk htl hown ⊢
      have HT0 := Lib.hid hT0
      clear hT0
      have hszr := hbr.size
      by_cases hv : x.val = v
      · rw [if_pos hv] at htk
        have Htk := Lib.hid htk
        have ht : (x.val.toList == v.toList) = true := by rw [hv]; simp
        clear htk hv
        have hby : Below wr.heap.size wr (wr.alloc (.cells (idC x.tag) 24)) := (Below.refl _ _).alloc (Nat.le_refl _) _
        have hown2 := hown.below hby
        have hrow2 : rowAt (wr.alloc (.cells (idC x.tag) 24)) wr.heap.size 0 32 = some (idC x.tag) := by simp [go_sem]
        go_wp2_with (at_builtin; refine L_append einfoId rfl hown2 rfl hrow2 (idC_one _) (by omega) (by omega) (by simp; omega) ?_; intro A' cap' w2 hownA hkA hsubA)
        have hbA : Below w1.heap.size w1 w2 := hbr.trans ((hby.mono hszr).trans (hkA.below (B := w1.heap.size) (by simp; omega) fun y hy => (hown.at_base hy).1))
        go_wp2_with fail
        go_roundw
        case rel => exact ⟨k + 1, A', cap', by omega, by go_num, by rw [Htk.out]; simp, by rw [Htk.out]; simpa using hownA, hbA⟩
        case measure => simp [intOf]; omega
      · rw [if_neg hv] at htk
        have Htk := Lib.hid htk
        have ht : (x.val.toList == v.toList) = false := by rw [beq_eq_false_iff_ne]; exact fun e => hv (toList_inj.1 e)
        clear htk hv
        go_wp2_with fail
        go_roundw
        case rel => exact ⟨k + 1, A, cap, by omega, by go_num, by rw [Htk.out], by rw [Htk.out]; exact hown, hbr⟩
        case measure => simp [intOf]; omega
    · have e : L.take k = L := List.take_of_length_le (by omega)
      rw [e] at hown ⊢
      clear e
      obtain ⟨F, hF⟩ : ∃ F, tagsOf L v = F := ⟨_, rfl⟩
      rw [hF] at hown ⊢
      have HF := Lib.hid hF
      clear hF
      go_wp2_with fail
      go_ret
      exact ⟨A, cap, by rw [HF.out]; rfl, by rw [HF.out]; exact hown.mono hb.size, bel2 hb hbr⟩

/-! ### List -/
@[go_sem] theorem bsPair0_run (w : World) : (bsS 38 0 #[]).run Try.prog w = .ok (.slice (some ⟨w.heap.size, 0, none⟩) 0 0) (w.alloc (.cells #[] 42)) := run_bsS0 einfoPair w
@[go_sem ↓] theorem slPair_rw (x : Value) (lo hi mx : Option Value) : Instr.sliceAt 38 x lo hi mx = slS 38 x lo hi mx := rfl
def pairW (s : ByteArray) : Array Value := pairC (pairV s)
theorem pairW_one (s : ByteArray) : ∀ u ∈ (pairW s).toList, u.oneCell' = true := pairC_one _
theorem listB_take (L : List BRow) (k : Nat) (hk : k < L.length) : listB (L.take (k + 1)) = insC cmpS (listB (L.take k)) (L[k]).val := by
  unfold listB
  rw [List.take_add_one, List.getElem?_eq_getElem hk, Option.toList_some, List.map_append, List.map_cons, List.map_nil, sortC_snoc]

end Go.Proofs.Ytlonihfhgfmplaa
