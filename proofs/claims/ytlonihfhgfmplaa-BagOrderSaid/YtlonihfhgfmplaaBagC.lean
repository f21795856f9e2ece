/- Package bag: Remove. -/
import Derived.Test.YtlonihfhgfmplaaBagB
namespace Go.Proofs.Ytlonihfhgfmplaa
open Go.RowKit

abbrev TagsIn (w : World) (A : Option Addr) (n : Nat) (R : List Id32) : Prop := SlR w A n 32 (R.map idC)
theorem TagsIn.len {w : World} {A : Option Addr} {n : Nat} {R : List Id32} (h : TagsIn w A n R) : R.length = n := by simpa using h.1
theorem TagsIn.get {w : World} {A : Option Addr} {n : Nat} {R : List Id32} (h : TagsIn w A n R) {i : Nat} (hi : i < n) (hR : i < R.length) : ∃ g o, A = some ⟨g, o, none⟩ ∧ rowAt w g (o + i * 32) 32 = some (idC R[i]) := by
  obtain ⟨g, o, e, hr⟩ := h.at_ hi
  rw [List.getElem_map] at hr
  exact ⟨g, o, e, hr⟩
theorem row_ne {w : World} {g o k b : Nat} {cs : Array Value} {X : List BRow} (h : rowAt w g o k = some cs) (hs : RowSet w b X) : g ≠ b := by
  rintro rfl
  obtain ⟨M, es, clk, hm, _⟩ := hs
  unfold rowAt at h
  rw [hm.heap] at h; cases h

/-- What removals do. -/
def remG (G : List BRow) (v : ByteArray) (tags : List Id32) : List BRow := tags.foldl (fun G t => insC cmpRow G ⟨t, v⟩) G
def remL (L : List BRow) (v : ByteArray) (tags : List Id32) : List BRow := tags.foldl (fun L t => L.filter fun y => decide (y ≠ (⟨t, v⟩ : BRow))) L
theorem mem_remG {v : ByteArray} : ∀ {tags : List Id32} {G : List BRow} {x : BRow}, x ∈ remG G v tags ↔ x ∈ G ∨ (x.val = v ∧ x.tag ∈ tags)
  | [], G, x => by simp [remG]
  | t :: tags, G, x => by
    show x ∈ remG (insC cmpRow G ⟨t, v⟩) v tags ↔ _
    rw [mem_remG, mem_insC totRow, List.mem_cons]
    constructor
    · rintro ((h | h) | ⟨h1, h2⟩)
      · subst h; exact .inr ⟨rfl, .inl rfl⟩
      · exact .inl h
      · exact .inr ⟨h1, .inr h2⟩
    · rintro (h | ⟨h1, h | h⟩)
      · exact .inl (.inr h)
      · exact .inl (.inl (by cases x; simp_all))
      · exact .inr ⟨h1, h⟩
theorem mem_remL {v : ByteArray} : ∀ {tags : List Id32} {L : List BRow} {x : BRow}, x ∈ remL L v tags ↔ x ∈ L ∧ ¬ (x.val = v ∧ x.tag ∈ tags)
  | [], L, x => by simp [remL]
  | t :: tags, L, x => by
    show x ∈ remL (L.filter fun y => decide (y ≠ (⟨t, v⟩ : BRow))) v tags ↔ _
    rw [mem_remL, List.mem_filter, List.mem_cons, decide_eq_true_eq]
    constructor
    · rintro ⟨⟨h1, h2⟩, h3⟩
      refine ⟨h1, ?_⟩
      rintro ⟨e1, e2 | e2⟩
      · exact h2 (by cases x; simp_all)
      · exact h3 ⟨e1, e2⟩
    · rintro ⟨h1, h2⟩
      refine ⟨⟨h1, fun e => h2 (by subst e; exact ⟨rfl, .inl rfl⟩)⟩, fun h => h2 ⟨h.1, .inr h.2⟩⟩
theorem ris_remG {v : ByteArray} : ∀ {tags : List Id32} {G : List BRow}, Ris cmpRow G → Ris cmpRow (remG G v tags)
  | [], _, h => h
  | t :: tags, G, h => by
    show Ris cmpRow (remG (insC cmpRow G ⟨t, v⟩) v tags)
    exact ris_remG (ris_insC totRow h)
theorem ris_remL {v : ByteArray} : ∀ {tags : List Id32} {L : List BRow}, Ris cmpRow L → Ris cmpRow (remL L v tags)
  | [], _, h => h
  | t :: tags, L, h => by
    show Ris cmpRow (remL (L.filter fun y => decide (y ≠ (⟨t, v⟩ : BRow))) v tags)
    exact ris_remL (h.filter _)
theorem remG_snoc (G : List BRow) (v : ByteArray) (tags : List Id32) (t : Id32) : remG G v (tags ++ [t]) = insC cmpRow (remG G v tags) ⟨t, v⟩ := by simp [remG]
theorem remL_snoc (L : List BRow) (v : ByteArray) (tags : List Id32) (t : Id32) : remL L v (tags ++ [t]) = (remL L v tags).filter fun y => decide (y ≠ (⟨t, v⟩ : BRow)) := by simp [remL]

theorem brem_nil (v : ByteArray) (V : Value) (w : World) : Calls Try.prog 32 #[.pointer none, .string v, V] w fun e w' => e = .returned (.int .i64 8) ∧ w = w' := by
  go_enter Try.func32, Try.ntmps32
  go_wp2_with fail
  refine (bask_nil _ _).mono ?_; rintro e w' ⟨rfl, rfl⟩
  go_wp2_with fail
  go_ret
  exact ⟨rfl, rfl⟩
theorem brem_zero (v : ByteArray) (V : Value) (w : World) (g : Nat) (h : w.cell? ⟨g, 0, none⟩ = some (.map none)) : Calls Try.prog 32 #[.pointer (some ⟨g, 0, none⟩), .string v, V] w fun e w' => e = .returned (.int .i64 8) ∧ w = w' := by
  go_enter Try.func32, Try.ntmps32
  go_wp2_with fail
  refine (bask_zero _ _ _ h).mono ?_; rintro e w' ⟨rfl, rfl⟩
  go_wp2_with fail
  go_ret
  exact ⟨rfl, rfl⟩

set_option maxRecDepth 100000 in
set_option maxHeartbeats 2000000 in
theorem brem_ok (v : ByteArray) (A : Option Addr) (n cap : Nat) (T : List Id32) (w : World) (g bl bg : Nat) (L G : List BRow) (h : BagAt w g bl bg L G) (hT : TagsIn w A n T) (hv : v.size ≤ 16) (hn : n ≤ 1000000) :
    Calls Try.prog 32 #[.pointer (some ⟨g, 0, none⟩), .string v, .slice A n cap] w fun e w' => e = .returned (.int .i64 0) ∧ BagAt w' g bl bg (remL L v T) (remG G v T) ∧ Keep [bl, bg] w w' := by
  have hlen := hT.len
  have Hlen := Lib.hid hlen
  clear hlen
  have hask := bask v w g bl h.cell0 (by omega)
  have e1 : longE v = 0 := if_neg (by omega)
  rw [e1] at hask
  clear e1
  go_enter Try.func32, Try.ntmps32
  go_wp2_with fail
  refine hask.mono ?_; rintro e w' ⟨rfl, rfl⟩
  go_wp2_with fail
  go_loopw [19] (fun i wr => ∃ k : Nat, k ≤ n ∧ i = .int .i64 k ∧ BagAt wr g bl bg (remL L v (T.take k)) (remG G v (T.take k)) ∧ Keep [bl, bg] w wr) (fun i _ => n - (intOf i).toNat)
  case atStart => exact ⟨0, Nat.zero_le _, rfl, by simpa [remL, remG] using h, Keep.refl _ _⟩
  case round =>
    obtain ⟨k, hk, rfl, hB, hkr⟩ := hrel
    by_cases hlt : k < n
    · obtain ⟨q, o, rfl, hrow⟩ := hT.get hlt (by rw [Hlen.out]; exact hlt)
      have hql : q ≠ bl := row_ne hrow h.live
      have hqg : q ≠ bg := row_ne hrow h.gone
      have hrr : rowAt wr q (o + k * 32) 32 = some (idC (T[k]'(by rw [Hlen.out]; exact hlt))) := (hkr.row (rowAt_lt hrow) (by simp [hql, hqg]) _ _).trans hrow
      have htk : T.take (k + 1) = T.take k ++ [T[k]'(by rw [Hlen.out]; exact hlt)] := by rw [List.take_add_one, List.getElem?_eq_getElem (by rw [Hlen.out]; exact hlt)]; rfl
      obtain ⟨d, hd⟩ : ∃ d, T[k]'(by rw [Hlen.out]; exact hlt) = d := ⟨_, rfl⟩
      rw [hd] at hrr htk
      have Htk := Lib.hid htk
      clear hd htk hrow
      have hsm : small ⟨d, v⟩ := hv
      obtain ⟨L1, hL1⟩ : ∃ L1, remL L v (T.take k) = L1 := ⟨_, rfl⟩
      obtain ⟨G1, hG1⟩ : ∃ G1, remG G v (T.take k) = G1 := ⟨_, rfl⟩
      have HL1 := Lib.hid hL1; have HG1 := Lib.hid hG1
      rw [hL1, hG1] at hB
      clear hL1 hG1
      have hb1 : Below wr.heap.size wr ((wr.alloc (.cells (idC d) 24)).alloc (.cells (bRowC ⟨d, v⟩) 120)) := ((Below.refl _ _).alloc (Nat.le_refl _) _).alloc (by simp) _
      have h1 := hB.below hb1
      have hrow1 : rowAt ((wr.alloc (.cells (idC d) 24)).alloc (.cells (bRowC ⟨d, v⟩) 120)) (wr.heap.size + 1) 0 33 = some (bRowC ⟨d, v⟩) := by simp [go_sem]
      have hlt' := hB.lt
      go_upto_region 8 with fail
      obtain ⟨W1, hW1⟩ : ∃ W1, W1 = ((wr.alloc (.cells (idC d) 24)).alloc (.cells (bRowC ⟨d, v⟩) 120)) := ⟨_, rfl⟩
      rw [← hW1] at h1 hrow1 hb1 ⊢
      obtain ⟨w2, hrun, hG2, hk2⟩ := rput (x := ⟨d, v⟩) (h1.gone.kept (Keep.drew W1) (by simp)) hsm
      have hgb : g ∉ [bg] := by simp; exact h1.neg
      have hc1 := h1.cell1
      clear hW1
      refine wp_region_lex (Kp [bg] W1) false (by kernel_rfl) (by kernel_rfl) (by kernel_rfl) (kp_drew [bg] W1) ?_
      have hne := kp_some [bg] W1
      have hS := kp_drew [bg] W1
      have b1 := ksub_cell hc1 hgb
      have b2 := ksub_row hrow1 (S := [bg]) (by simp; omega)
      repeat (refine wpLx_loose ?_ ?_; (focus (simp only [chainOp]; done)); intro K hK; go_simp; refine hK _ ?_; clear hK K)
      refine wpLx_chain ?_ ?_ ?_
      focus (exact hS)
      focus (simp only [chainOp]; done)
      intro K hK
      go_simp
      refine step_keep (kp_next hS hk2 (by simp)) (fun hS => ?_)
      refine hK _ _ ?_
      clear hK K
      refine wpLx_nil ?_
      intro hS
      have hS' : Keep [bg] W1 w2 := hS
      have hlg : bl ∉ [bg] := by simp; exact h1.ne
      have hl2 := h1.live.kept hS' hlg
      have hblk2 := (hS'.block g h1.lt.1 hgb).trans h1.blk
      have hc0 : w2.cell? ⟨g, 0, none⟩ = some (.map (some bl)) := by rw [cell_of_row w2 g 0 _ _ _ hblk2]; rfl
      have hrow2 : rowAt w2 (wr.heap.size + 1) 0 33 = some (bRowC ⟨d, v⟩) := (hS'.row (rowAt_lt hrow1) (by simp; omega) _ _).trans hrow1
      have hkW2 : Keep [bg] wr w2 := Keep.trans ((Keep.of_below hb1).mono (S' := [bg]) (by simp)) hS' (fun x hx => .inl hx)
      have hg1l := hB.nel
      have hsz2 := hkW2.size
      clear b1 b2 hk2 hrun hne hS hS' hc1 hrow1 hb1
      go_upto_region 9 with fail
      obtain ⟨w3, hrun, hL3, hk3⟩ := rdel (x := ⟨d, v⟩) (hl2.kept (Keep.drew w2) (by simp)) hsm 0
      have hgl : g ∉ [bl] := by simp; exact hg1l
      refine wp_region_lex (Kp [bl] w2) false (by kernel_rfl) (by kernel_rfl) (by kernel_rfl) (kp_drew [bl] w2) ?_
      have hne := kp_some [bl] w2
      have hS := kp_drew [bl] w2
      have b1 := ksub_cell hc0 hgl
      have b2 := ksub_row hrow2 (S := [bl]) (by simp; omega)
      repeat (refine wpLx_loose ?_ ?_; (focus (simp only [chainOp]; done)); intro K hK; go_simp; refine hK _ ?_; clear hK K)
      refine wpLx_chain ?_ ?_ ?_
      focus (exact hS)
      focus (simp only [chainOp]; done)
      intro K hK
      go_simp
      refine step_keep (kp_next hS hk3 (by simp)) (fun hS => ?_)
      refine hK _ _ ?_
      clear hK K
      refine wpLx_nil ?_
      intro hS
      have hS' : Keep [bl] w2 w3 := hS
      have hgl' : bg ∉ [bl] := by simp; exact fun e => h1.ne e.symm
      have hkn : Keep [bl, bg] w w3 := Keep.trans (Keep.trans hkr hkW2 (by simp)) hS' (by simp)
      have hBn : BagAt w3 g bl bg (remL L v (T.take (k + 1))) (remG G v (T.take (k + 1))) := by
        rw [Htk.out, remL_snoc, remG_snoc, HL1.out, HG1.out]
        refine ⟨(hS'.block g (World.block_lt_of_cell? w2 _ hc0) hgl).trans hblk2, hL3, (hG2.congr fun x => ?_).kept hS' hgl', h1.ne, hB.risL.filter _, ris_insC totRow hB.risG, fun x hx => hB.smL x (List.mem_filter.1 hx).1, fun x hx => ?_, fun x hx => ?_⟩
        · rw [mem_insC totRow, List.mem_cons]
        · rcases (mem_insC totRow).1 hx with e | hx
          · rw [e]; exact hsm
          · exact hB.smG x hx
        · intro hm
          have h2 := List.mem_filter.1 hx
          rcases (mem_insC totRow).1 hm with e | hm
          · exact (decide_eq_true_eq.mp h2.2) e
          · exact hB.apart x h2.1 hm
      clear b1 b2 hk3 hrun hne hS hS' hc0 hrow2
      go_wp2_with fail
      go_roundw
      case rel => exact ⟨k + 1, by omega, by go_num, hBn, hkn⟩
      case measure => simp [intOf]; omega
    · go_wp2_with fail
      go_ret
      have e : k = n := by omega
      have e2 : T.take k = T := List.take_of_length_le (by rw [Hlen.out]; omega)
      rw [e2] at hB
      exact ⟨rfl, hB, hkr⟩

set_option maxHeartbeats 1000000 in
theorem brem (v : ByteArray) (A : Option Addr) (n cap : Nat) (T : List Id32) (w : World) (g bl bg : Nat) (L G : List BRow) (h : BagAt w g bl bg L G) (hT : TagsIn w A n T) (hv : v.size ≤ 9223372036854775807) (hn : n ≤ 1000000) :
    Calls Try.prog 32 #[.pointer (some ⟨g, 0, none⟩), .string v, .slice A n cap] w fun e w' => e = .returned (.int .i64 (longE v)) ∧ BagAt w' g bl bg (if 16 < v.size then L else remL L v T) (if 16 < v.size then G else remG G v T) ∧ Keep [bl, bg] w w' := by
  by_cases hl : 16 < v.size
  · have e1 : longE v = 3 := if_pos hl
    have hask := bask v w g bl h.cell0 hv
    rw [if_pos hl, if_pos hl, e1]
    rw [e1] at hask
    have Hl := Lib.hid hl
    clear hl e1
    go_enter Try.func32, Try.ntmps32
    go_wp2_with fail
    refine hask.mono ?_; rintro e w' ⟨rfl, rfl⟩
    go_wp2_with fail
    go_ret
    exact ⟨rfl, h, Keep.refl _ _⟩
  · have e1 : longE v = 0 := if_neg hl
    rw [if_neg hl, if_neg hl, e1]
    exact brem_ok v A n cap T w g bl bg L G h hT (by omega) hn

end Go.Proofs.Ytlonihfhgfmplaa
