/- The reference's Load (petrelref23): the walk. -/
import Derived.Test.YtlonihfhgfmplaaLd
import Derived.Test.YtlonihfhgfmplaaLateW
namespace Go.Proofs.Ytlonihfhgfmplaa
open Go.RowKit

set_option maxRecDepth 100000 in
@[go_sem] theorem buildRow_0 (a0 : ByteArray) (w : World) : (bdS 32 #[(0, .string a0)]).run Try.prog w = .ok (.agg (rowC ⟨a0, ⟨#[]⟩, 0, id0⟩)) w := by
  refine run_build w fieldsRow _ (zeroRow_run w) _ (placesRow w) [(0, .string a0)] _ ?_
  rw [show rowC row0 = (#[] : Array Value) ++ #[.string ⟨#[]⟩] ++ (#[.string ⟨#[]⟩] ++ (#[.int .i64 0] ++ (idC id0))) from by first | (simp [rowC, row0, Array.append_assoc]; done) | (apply Array.ext'; simp [rowC, row0])]
  rw [fill_step (off := 0) (size := 1) rfl (by simp) (by simp) (by simp [Value.cells])]
  simp only [Instr.fill, rowC]
  all_goals try congr 1
  all_goals try (apply Array.ext'; simp [Value.cells])

set_option maxRecDepth 100000 in
theorem rowC_set1 (k v v' : ByteArray) (n : Int) (d : Id32) : (rowC ⟨k, v, n, d⟩).setIfInBounds 1 (.string v') = rowC ⟨k, v', n, d⟩ := by
  apply Array.ext'; simp [rowC]
set_option maxRecDepth 100000 in
theorem rowC_set2 (k v : ByteArray) (n n' : Int) (d : Id32) : (rowC ⟨k, v, n, d⟩).setIfInBounds 2 (.int .i64 n') = rowC ⟨k, v, n', d⟩ := by
  apply Array.ext'; simp [rowC]
theorem rowC_set3 (k v : ByteArray) (n : Int) (d d' : Id32) : ((rowC ⟨k, v, n, d⟩).toList.take (3 + 0) ++ (idC d').toList ++ (rowC ⟨k, v, n, d⟩).toList.drop (3 + 0 + (idC d').toList.length)).toArray = rowC ⟨k, v, n, d'⟩ := by
  apply Array.ext'
  have h1 : (idC d').toList.length = 32 := by simp
  have h2 : (idC d).toList.length = 32 := by simp
  rw [h1]
  have e : (rowC ⟨k, v, n, d⟩).toList = [.string k, .string v, .int .i64 n] ++ (idC d).toList := by simp [rowC]
  have e' : (rowC ⟨k, v, n, d'⟩).toList = [.string k, .string v, .int .i64 n] ++ (idC d').toList := by simp [rowC]
  rw [e, e']
  simp [List.drop_eq_nil_of_le, h2]

/-- An id stored into a row's box. -/
theorem store_id {w : World} {g : Nat} {k v : ByteArray} {n : Int} {d : Id32} (d' : Id32) (h : w.heap[g]? = some (.cells (rowC ⟨k, v, n, d⟩) 32 (0, 0))) :
    (stS 24 ⟨g, 3, none⟩ (.agg (idC d'))).run Try.prog w = .ok () (w.setRow g (rowC ⟨k, v, n, d'⟩)) := by
  have hst := run_storeCells_at Try.prog g 3 32 (idC d').toList 0 (rowC ⟨k, v, n, d⟩) w h (by simp) (idC_one d')
  rw [rowC_set3] at hst
  unfold stS storeVar
  have hi := infoId
  cases hinfo : Try.prog.info? 24 with
  | none => rw [hinfo] at hi; cases hi
  | some i =>
    rw [hinfo] at hi
    have hk : i.size = 32 := by simpa using hi
    simp [Value.cells, sizeOf, typeInfo, hinfo, hk]
    simpa using hst

theorem rr_num4 (w : World) (g : Nat) (l : List UInt8) (e : Int) (h : RrAt w g l e) :
    Calls Try.prog 59 #[.pointer (some ⟨g, 0, none⟩), .int .i64 4] w fun en w' => en = .returned (.int .i64 (numV 4 l e)) ∧ RrStep w g (rawL 4 l e) (rawE 4 l e) w' := rr_num w g 4 l e h (.inr rfl)
theorem rr_num1 (w : World) (g : Nat) (l : List UInt8) (e : Int) (h : RrAt w g l e) :
    Calls Try.prog 59 #[.pointer (some ⟨g, 0, none⟩), .int .i64 1] w fun en w' => en = .returned (.int .i64 (numV 1 l e)) ∧ RrStep w g (rawL 1 l e) (rawE 1 l e) w' := rr_num w g 1 l e h (.inl rfl)

set_option maxRecDepth 100000 in
set_option maxHeartbeats 4000000 in
theorem rload (w : World) (s : ByteArray) (hs : s.size ≤ 1000000) :
    Calls Try.prog 25 #[.string s] w fun e w' => ∃ A cap n, e = .returned (.tuple #[.slice A n cap, .int .i64 (loadE s.data.toList)]) ∧ (loadE s.data.toList = 0 → RowsIn w' A n (readRds s.data.toList).rows) ∧ Below w.heap.size w w' := by
  obtain ⟨l, hl⟩ : ∃ l, s.data.toList = l := ⟨_, rfl⟩
  have hsl : s = mkB l := by rw [← hl]; rfl
  have hll : l.length ≤ 1000000 := by rw [← hl]; exact hs
  rw [hl]
  subst hsl
  clear hl hs
  have hb0 : Below w.heap.size w (w.alloc (.cells (rrC ⟨mkB l, 0⟩) 114)) := (Below.refl _ _).alloc (Nat.le_refl _) _
  have hr0 : RrAt (w.alloc (.cells (rrC ⟨mkB l, 0⟩) 114)) w.heap.size l 0 := ⟨by omega, heap_alloc_new w _⟩
  have c0 := rr_num4 _ _ l 0 hr0
  have hN := numV_lt 4 l 0
  obtain ⟨N, hNe⟩ : ∃ N, numV 4 l 0 = N := ⟨_, rfl⟩
  have hrd : Hid (readRds l = loopRds N ⟨[], rawL 4 l 0, rawE 4 l 0⟩) := by show _ = _; rw [← hNe]; rfl
  rw [hNe] at c0 hN
  clear hNe
  go_enter Try.func25, Try.ntmps25
  go_wp2_with fail
  refine c0.mono ?_; rintro e w1 ⟨rfl, hst1⟩
  have hb1 : Below w.heap.size w w1 := hb0.trans (hst1.2.below (by simp) (by simp))
  have hr1 := hst1.1
  clear c0 hr0 hb0 hst1
  obtain ⟨g, hg⟩ : ∃ g, w.heap.size = g := ⟨_, rfl⟩
  rw [hg] at hr1 ⊢
  have Hg := Lib.hid hg
  have hgw : g < w1.heap.size := hr1.lt
  clear hg
  go_wp2_with fail
  go_loopw [6, 7] (fun out i wr => ∃ (k : Nat) (R : List Row) (l1 : List UInt8) (e1 : Int) (A1 : Option Addr) (cap1 : Nat), k ≤ N ∧ i = .int .i64 k ∧ out = .slice A1 R.length cap1 ∧ R.length = k ∧ Own wr w1.heap.size 32 35 A1 R.length cap1 (R.map rowC) ∧ RrAt wr g l1 e1 ∧ Hid (loopRds N ⟨[], rawL 4 l 0, rawE 4 l 0⟩ = loopRds (N - k) ⟨R, l1, e1⟩) ∧ Hid (Fits R) ∧ Below w.heap.size w wr ∧ w1.heap.size ≤ wr.heap.size) (fun _ i _ => N - (intOf i).toNat)
  case atStart => exact ⟨0, [], _, _, none, 0, Nat.zero_le _, rfl, rfl, rfl, Own.nil _ _ _ _, hr1, (show _ = _ from rfl), (show Fits [] by intro x hx; cases hx), hb1, Nat.le_refl _⟩
  case round =>
    clear hr1 hb1
    obtain ⟨k, R, l1, e1, A1, cap1, hkN, rfl, rfl, hRk, hown, hr, hlp, hft, hb, hsz⟩ := hrel
    have HRk := Lib.hid hRk
    have hRN : R.length ≤ N := by omega
    clear hRk
    obtain ⟨c0, c1, _⟩ := rr_cells hr
    by_cases hgo : k < N ∧ e1 = 0
    · obtain ⟨hlt, rfl⟩ := hgo
      have hlp2 := hlp.out
      rw [show N - k = (N - (k + 1)) + 1 by omega, loopRds_step _ _ rfl] at hlp2
      have Hlp := Lib.hid hlp2
      have hft2 := fits_step hft.out l1 0
      have Hft := Lib.hid hft2
      clear hlp hlp2 hft hft2
      have hgS : g ∉ blk A1 := fun hx => by have := (hown.at_base hx).1; omega
      go_wp2_with fail
      refine (rr_num1 _ g l1 0 hr).mono ?_; rintro e w2 ⟨rfl, hr2, hk2⟩
      have hn2 := numV_lt 1 l1 0
      go_wp2_with fail
      refine (rr_raw _ g _ _ _ hr2 (by omega)).mono ?_; rintro e w3 ⟨rfl, hr3, hk3⟩
      have hE2 : RrAt w3 g (txL l1 0) (txE l1 0) := hr3
      obtain ⟨kv, hkv⟩ : ∃ kv, mkB (rawV (numV 1 l1 0) (rawL 1 l1 0) (rawE 1 l1 0)) = kv := ⟨_, rfl⟩
      have Hkv := Lib.hid (show txV l1 0 = kv from hkv)
      rw [hkv]
      obtain ⟨l2, hl2⟩ : ∃ l2, txL l1 0 = l2 := ⟨_, rfl⟩
      obtain ⟨e2, he2⟩ : ∃ e2, txE l1 0 = e2 := ⟨_, rfl⟩
      rw [hl2, he2] at hE2
      have Hl2 := Lib.hid hl2; have He2 := Lib.hid he2
      have hk13 : Keep [g] wr w3 := Keep.trans hk2 hk3 (fun x hx => .inl hx)
      have hs13 := hk13.size
      have hb8 : Keep [] w3 (w3.alloc (.cells (rowC ⟨kv, ⟨#[]⟩, 0, id0⟩) 32)) := Keep.alloc _ _
      have h8 := heap_alloc_new w3 (.cells (rowC ⟨kv, ⟨#[]⟩, 0, id0⟩) 32)
      have hg3 : g < w3.heap.size := hE2.lt
      have hE4 := hE2.kept hb8 (by simp)
      have hk14 : Keep [g] wr (w3.alloc (.cells (rowC ⟨kv, ⟨#[]⟩, 0, id0⟩) 32)) := Keep.trans hk13 (hb8.mono (S' := [g]) (by simp)) (fun x hx => .inl hx)
      clear hr hr2 hr3 hk2 hk3 hkv hl2 he2 hE2 hb8 hk13 hn2 c0 c1
      obtain ⟨g8, hg8⟩ : ∃ g8, w3.heap.size = g8 := ⟨_, rfl⟩
      rw [hg8] at h8 hg3 hs13
      go_upto_region 8 with fail
      have Hg8 := Lib.hid hg8
      clear hg8
      generalize w3.alloc (.cells (rowC ⟨kv, ⟨#[]⟩, 0, id0⟩) 32) = W at *
      have hg8l : g8 < W.heap.size := (Array.getElem?_eq_some_iff.1 h8).1
      have hne8 : g8 ∉ [g] := by simp; omega
      have hng : g ∉ [g8] := by simp; omega
      go_wp2_with fail
      refine (rr_num1 _ g l2 e2 hE4).mono ?_; rintro e w5 ⟨rfl, hr5, hk5⟩
      have hn5 := numV_lt 1 l2 e2
      go_wp2_with fail
      refine (rr_raw _ g _ _ _ hr5 (by omega)).mono ?_; rintro e w6 ⟨rfl, hr6, hk6⟩
      have hE6 : RrAt w6 g (txL l2 e2) (txE l2 e2) := hr6
      have hk56 : Keep [g] W w6 := Keep.trans hk5 hk6 (fun x hx => .inl hx)
      have h86 := (hk56.block g8 hg8l hne8).trans h8
      obtain ⟨vv, hvv⟩ : ∃ vv, mkB (rawV (numV 1 l2 e2) (rawL 1 l2 e2) (rawE 1 l2 e2)) = vv := ⟨_, rfl⟩
      have Hvv := Lib.hid (show txV l2 e2 = vv from hvv)
      rw [hvv]
      obtain ⟨l3, hl3⟩ : ∃ l3, txL l2 e2 = l3 := ⟨_, rfl⟩
      obtain ⟨e3, he3⟩ : ∃ e3, txE l2 e2 = e3 := ⟨_, rfl⟩
      rw [hl3, he3] at hE6
      have Hl3 := Lib.hid hl3; have He3 := Lib.hid he3
      have x1 : w6.cell? ⟨g8, 1, none⟩ = some (.string ⟨#[]⟩) := by rw [cell_of_row w6 g8 _ _ _ _ h86]; simp [go_sem]
      have f1 : w6.frozen? ⟨g8, 1, none⟩ = false := by simp [World.frozen?, h86]
      have h87 := heap_setCell_same h86 1 (.string vv)
      rw [rowC_set1] at h87
      have hks := Keep.setCell w6 ⟨g8, 1, none⟩ (.string vv)
      have hE7 := hE6.kept hks hng
      have hk17 : Keep [g, g8] W (w6.setCell ⟨g8, 1, none⟩ (.string vv)) := Keep.trans (hk56.mono (S' := [g, g8]) (by simp)) (hks.mono (S' := [g, g8]) (by simp)) (fun x hx => .inl hx)
      clear hr5 hr6 hk5 hk6 hvv hl3 he3 hE6 hE4 hn5 hk56 h86 h8 hks
      go_upto_region 9 with fail
      generalize w6.setCell ⟨g8, 1, none⟩ (.string vv) = W7 at *
      clear x1 f1
      have hg87 : g8 < W7.heap.size := (Array.getElem?_eq_some_iff.1 h87).1
      go_wp2_with fail
      refine (rr_num4 _ g l3 e3 hE7).mono ?_; rintro e w8 ⟨rfl, hE8, hk8⟩
      have h88 := (hk8.block g8 hg87 hne8).trans h87
      have x2 : w8.cell? ⟨g8, 2, none⟩ = some (.int .i64 0) := by rw [cell_of_row w8 g8 _ _ _ _ h88]; simp [go_sem]
      have f2 : w8.frozen? ⟨g8, 2, none⟩ = false := by simp [World.frozen?, h88]
      obtain ⟨nv, hnv⟩ : ∃ nv, numV 4 l3 e3 = nv := ⟨_, rfl⟩
      have Hnv := Lib.hid hnv
      rw [hnv]
      have h89 := heap_setCell_same h88 2 (.int .i64 nv)
      rw [rowC_set2] at h89
      have hks := Keep.setCell w8 ⟨g8, 2, none⟩ (.int .i64 nv)
      have hE9 := hE8.kept hks hng
      have hk19 : Keep [g, g8] W (w8.setCell ⟨g8, 2, none⟩ (.int .i64 nv)) := Keep.trans (Keep.trans hk17 (hk8.mono (S' := [g, g8]) (by simp)) (fun x hx => .inl hx)) (hks.mono (S' := [g, g8]) (by simp)) (fun x hx => .inl hx)
      clear hE8 hk8 hnv hks hk17 h88 h87 hE7
      go_upto_region 10 with fail
      generalize w8.setCell ⟨g8, 2, none⟩ (.int .i64 nv) = W9 at *
      clear x2 f2
      have hg89 : g8 < W9.heap.size := (Array.getElem?_eq_some_iff.1 h89).1
      go_wp2_with fail
      refine (rr_id _ g _ _ hE9).mono ?_; rintro e w10 ⟨rfl, hE10, hk10⟩
      have h810 := (hk10.block g8 hg89 hne8).trans h89
      obtain ⟨dv, hdv⟩ : ∃ dv, idOf (rawV 32 (rawL 4 l3 e3) (rawE 4 l3 e3)) = dv := ⟨_, rfl⟩
      have Hdv := Lib.hid hdv
      rw [hdv]
      have hsto := store_id dv h810
      have hfin := setRow_heap w10 g8 _ (rowC ⟨kv, vv, (nv : Int), dv⟩) _ _ h810
      have hks : Keep [g8] w10 (w10.setRow g8 (rowC ⟨kv, vv, (nv : Int), dv⟩)) := ⟨rfl, rfl, rfl, by simp [World.setRow], fun x _ hx => setRow_other w10 g8 x _ (by simpa using hx)⟩
      have hE11 := hE10.kept hks hng
      have hk111 : Keep [g, g8] W (w10.setRow g8 (rowC ⟨kv, vv, (nv : Int), dv⟩)) := Keep.trans (Keep.trans hk19 (hk10.mono (S' := [g, g8]) (by simp)) (fun x hx => .inl hx)) (hks.mono (S' := [g, g8]) (by simp)) (fun x hx => .inl hx)
      clear hE10 hk10 hdv hks hk19 h810 h89 hE9
      go_upto_region 11 with fail
      generalize w10.setRow g8 (rowC ⟨kv, vv, (nv : Int), dv⟩) = W11 at *
      have hA1 : ∀ x ∈ blk A1, x ∉ [g, g8] := fun x hx => by have := hown.at_base hx; simp; omega
      have hk011 : Keep [g, g8] wr W11 := Keep.trans (hk14.mono (S' := [g, g8]) (by simp)) hk111 (fun x hx => .inl hx)
      have hown11 := hown.kept hk011 hA1
      have hrow11 : rowAt W11 g8 0 35 = some (rowC ⟨kv, vv, (nv : Int), dv⟩) := by unfold rowAt; rw [hfin]; simp [go_sem]
      have hb11 : Below w.heap.size w W11 := hb.trans (hk011.below hb.size (by intro x hx; simp at hx; have := Hg.out; have := hb.size; omega))
      have hbx : Below W11.heap.size W11 (W11.alloc (.cells (rowC ⟨kv, vv, (nv : Int), dv⟩) 32)) := (Below.refl _ _).alloc (Nat.le_refl _) _
      have hown12 := hown11.below hbx
      have hrow12 : rowAt (W11.alloc (.cells (rowC ⟨kv, vv, (nv : Int), dv⟩) 32)) W11.heap.size 0 35 = some (rowC ⟨kv, vv, (nv : Int), dv⟩) := by simp [go_sem]
      have hsz11 : w1.heap.size ≤ W11.heap.size := by have := hk011.size; omega
      have hx : oneRow l1 0 = ⟨kv, vv, (nv : Int), dv⟩ := by unfold oneRow; rw [Hkv.out, Hl2.out, He2.out, Hvv.out, Hl3.out, He3.out, Hnv.out, Hdv.out]
      have hL : oneL l1 0 = rawL 32 (rawL 4 l3 e3) (rawE 4 l3 e3) := by unfold oneL; rw [Hl2.out, He2.out, Hl3.out, He3.out]
      have hEe : oneE l1 0 = rawE 32 (rawL 4 l3 e3) (rawE 4 l3 e3) := by unfold oneE; rw [Hl2.out, He2.out, Hl3.out, He3.out]
      rw [← hL, ← hEe] at hE11
      rw [hx] at Hft
      have Hx := Lib.hid hx
      clear hx hL hEe hown hown11 hb hk14 hk111 hfin hA1 hs13
      obtain ⟨xx, hxx⟩ : ∃ xx : Row, (⟨kv, vv, (nv : Int), dv⟩ : Row) = xx := ⟨_, rfl⟩
      rw [hxx] at hrow11 hbx hown12 hrow12 Hx Hft
      clear hxx
      go_wp2_with (at_builtin; refine L_append einfoRow rfl hown12 rfl hrow12 (rowC_one _) (by omega) (by omega) (by simp; omega) ?_; intro A13 cap13 w13 hown13 hk13' hsub13)
      have hk0 : Keep (blk A1) W11 w13 := Keep.trans ((Keep.of_below hbx).mono (S' := blk A1) (by simp)) hk13' (fun x hx => .inl hx)
      have hE13 := hE11.kept hk0 hgS
      have hb13 := hb11.trans (hk0.below hb11.size (fun x hx => by have := (hown12.at_base hx).1; have := Hg.out; omega))
      have hsz13 : w1.heap.size ≤ w13.heap.size := by have := hk0.size; omega
      rw [show R.map rowC ++ [rowC xx] = (R ++ [xx]).map rowC by simp] at hown13
      have hlen13 : (R ++ [xx]).length = R.length + 1 := by simp
      have Hlen13 := Lib.hid hlen13
      clear hlen13 hk0 hk13' hsub13 hown12 hrow12 hbx hrow11 hb11 hE11
      go_wp2_with fail
      go_roundw
      case rel => exact ⟨k + 1, R ++ [xx], _, _, A13, cap13, by omega, by go_num, (by rw [Hlen13.out]), (by rw [Hlen13.out, HRk.out]), (by rw [Hlen13.out]; exact hown13), hE13, (show _ = _ by rw [Hlp.out]; unfold stepRds; rw [Hx.out]), Hft, hb13, hsz13⟩
      case measure => simp [intOf]; omega
    · have hfin : readRds l = ⟨R, l1, e1⟩ := by
        rw [hrd.out, hlp.out]
        by_cases he : e1 = 0
        · rw [show N - k = 0 by omega]; rfl
        · exact loopRds_stop _ _ he
      have Hfin := Lib.hid hfin
      clear hfin hlp hrd
      by_cases he : e1 = 0
      · subst he
        have hkN2 : ¬ k < N := by omega
        clear hgo
        have hs1 : RowsIn wr A1 R.length R := hown.slr
        have hRl : R.length ≤ 4294967296 := by omega
        have hld : loadE l = if firstE R ≠ 0 then firstE R else if risingB R = false then 4 else if l1 = [] then 0 else 4 := by unfold loadE; rw [Hfin.out, if_neg (by simp)]
        have Hld := Lib.hid hld
        have hrr : (readRds l).rows = R := by rw [Hfin.out]
        have Hrr := Lib.hid hrr
        have Hft := Lib.hid hft.out
        clear hld hrr hown hft
        go_wp2_with fail
        obtain ⟨wo, rfl⟩ : ∃ wo : World, wo = wr := ⟨_, rfl⟩
        go_loopw [9] (fun i wq => ∃ j : Nat, j ≤ R.length ∧ i = .int .i64 j ∧ Hid (firstE R = firstE (R.drop j)) ∧ Below wo.heap.size wo wq) (fun i _ => R.length - (intOf i).toNat)
        case atStart => exact ⟨0, Nat.zero_le _, rfl, (show _ = _ from rfl), Below.refl _ _⟩
        case round =>
          obtain ⟨j, hj, rfl, hfe, hbq⟩ := hrel
          by_cases hlt : j < R.length
          · obtain ⟨q, o, rfl, hrow, _, _, _, _⟩ := RowsIn.get (SlR.below hs1 hbq) hlt hlt
            have hdr : R.drop j = R[j] :: R.drop (j + 1) := List.drop_eq_getElem_cons hlt
            have hfit := Hft.out _ (List.getElem_mem hlt)
            obtain ⟨x, hx⟩ : ∃ x, R[j]'hlt = x := ⟨_, rfl⟩
            rw [hx] at hrow hdr hfit
            have hfe2 := hfe.out
            rw [hdr] at hfe2
            have hfe3 : firstE R = if checkE x.key (rowS x) = 0 then firstE (R.drop (j + 1)) else checkE x.key (rowS x) := hfe2
            have Hfe := Lib.hid hfe3
            clear hfe hfe2 hfe3 hdr hx
            go_wp2_with fail
            refine (rcheck x _ (by omega) (by omega)).mono ?_; rintro e w4 ⟨rfl, hb4⟩
            have hbq4 := bel2 hbq hb4
            clear hb4 hrow
            obtain ⟨E, hE⟩ : ∃ E, checkE x.key (rowS x) = E := ⟨_, rfl⟩
            rw [hE] at Hfe ⊢
            clear hE
            cases hE0 : (E == 0) with
            | true =>
              obtain rfl : E = 0 := by simpa using hE0
              have hfe4 := Hfe.out
              rw [if_pos rfl] at hfe4
              have Hfe4 := Lib.hid hfe4
              clear hfe4
              go_wp2_with fail
              go_roundw
              case rel => exact ⟨j + 1, by omega, by go_num, Hfe4, hbq4⟩
              case measure => simp [intOf]; omega
            | false =>
              have hEn : E ≠ 0 := by simpa using hE0
              have hEb : (E != 0) = true := by simpa using hE0
              have hfe4 := Hfe.out
              rw [if_neg hEn] at hfe4
              have hld2 := Hld.out
              rw [hfe4, if_pos hEn] at hld2
              have Hld2 := Lib.hid hld2
              have HEn := Lib.hid hEn
              clear hfe4 hld2 hEn
              go_wp2_with fail
              go_ret2
              exact ⟨none, 0, 0, by rw [Hld2.out]; rfl, fun h0 => absurd (Hld2.out.symm.trans h0) HEn.out, bel2 hb hbq4⟩
          · have hfe0 : firstE R = 0 := by rw [hfe.out, List.drop_eq_nil_of_le (by omega)]; rfl
            have hld2 := Hld.out
            rw [if_neg (by rw [hfe0]; simp)] at hld2
            have Hld2 := Lib.hid hld2
            clear hfe0 hld2 hfe
            have hs2 : RowsIn wr A1 R.length R := SlR.below hs1 hbq
            have hr2 := hr.below hbq
            have hb2 := bel2 hb hbq
            clear hs1 hr hb hbq
            go_wp2_with fail
            obtain ⟨wp, rfl⟩ : ∃ wp : World, wp = wr := ⟨_, rfl⟩
            go_loopw [11] (fun i wq => ∃ j : Nat, (j < R.length ∨ j = 0) ∧ i = .int .i64 ((j : Int) + 1) ∧ Hid (risingB R = risingB (R.drop j)) ∧ Below wp.heap.size wp wq) (fun i _ => R.length + 1 - (intOf i).toNat)
            case atStart => exact ⟨0, .inr rfl, rfl, (show _ = _ from rfl), Below.refl _ _⟩
            case round =>
              obtain ⟨j, hj, rfl, hri, hbq⟩ := hrel
              by_cases hlt : j + 1 < R.length
              · obtain ⟨q, o, rfl, _, hkey2, _, _, _⟩ := RowsIn.get (SlR.below hs2 hbq) hlt hlt
                obtain ⟨q', o', hqe, _, hkey1, _, _, _⟩ := RowsIn.get (SlR.below hs2 hbq) (show j < R.length by omega) (show j < R.length by omega)
                injection hqe with hqe
                injection hqe with hq1 hq2
                subst hq1; subst hq2
                have hdr : R.drop j = R[j] :: R[j + 1] :: R.drop (j + 2) := by rw [List.drop_eq_getElem_cons (show j < R.length by omega), List.drop_eq_getElem_cons hlt]
                have hdr2 : R.drop (j + 1) = R[j + 1] :: R.drop (j + 2) := List.drop_eq_getElem_cons hlt
                obtain ⟨x, hx⟩ : ∃ x, R[j]'(by omega) = x := ⟨_, rfl⟩
                obtain ⟨y, hy⟩ : ∃ y, R[j + 1]'hlt = y := ⟨_, rfl⟩
                rw [hx] at hkey1 hdr
                rw [hy] at hkey2 hdr hdr2
                have hri2 := hri.out
                rw [hdr] at hri2
                have hri3 : risingB R = (bltS x.key y.key && risingB (R.drop (j + 1))) := by rw [hri2, hdr2]; rfl
                have Hri := Lib.hid hri3
                clear hri hri2 hri3 hdr hdr2 hx hy
                have hlt2 : ((j : Int) + 1 < R.length) := by omega
                have w1' : IntKind.i64.wrap (j : Int) = j := IntWalk.i64_in _ (by omega)
                have t1 : ((j : Int) + 1).toNat = j + 1 := by omega
                have t2 : (0 : Int) ≤ (j : Int) + 1 := by omega
                have t3 : (j : Int) < R.length := by omega
                have t4 : j < R.length := by omega
                cases hbl : bltS x.key y.key with
                | true =>
                  have hbl' : Op.bytesLess x.key.toList y.key.toList = true := hbl
                  rw [hbl, Bool.true_and] at Hri
                  go_upto_region 23 with fail
                  refine wp_region_lex (Bel wr) false (by kernel_rfl) (by kernel_rfl) (by kernel_rfl) (bel_drew wr) ?_
                  have hne := bel_some wr
                  have hS := bel_drew wr
                  have b1 := sub_cell hkey1; have b2 := sub_cell hkey2
                  repeat (refine wpLx_loose ?_ ?_; (focus (simp only [chainOp]; done)); intro K hK; go_simp; refine hK _ ?_; clear hK K)
                  refine wpLx_nil ?_
                  intro hS
                  clear hne hS b1 b2 hbl hbl' w1'
                  go_wp2_with fail
                  go_roundw
                  case rel => exact ⟨j + 1, .inl hlt, by go_num, Hri, hbq.drew⟩
                  case measure => simp [intOf]; omega
                | false =>
                  have hbl' : Op.bytesLess x.key.toList y.key.toList = false := hbl
                  rw [hbl, Bool.false_and] at Hri
                  have hld3 := Hld2.out
                  rw [if_pos Hri.out] at hld3
                  have Hld3 := Lib.hid hld3
                  clear hld3
                  go_upto_region 23 with fail
                  refine wp_region_lex (Bel wr) false (by kernel_rfl) (by kernel_rfl) (by kernel_rfl) (bel_drew wr) ?_
                  have hne := bel_some wr
                  have hS := bel_drew wr
                  have b1 := sub_cell hkey1; have b2 := sub_cell hkey2
                  repeat (refine wpLx_loose ?_ ?_; (focus (simp only [chainOp]; done)); intro K hK; go_simp; refine hK _ ?_; clear hK K)
                  refine wpLx_nil ?_
                  intro hS
                  clear hne hS b1 b2 hbl hbl' w1'
                  go_wp2_with fail
                  go_ret2
                  exact ⟨none, 0, 0, by rw [Hld3.out]; rfl, fun h0 => absurd (Hld3.out.symm.trans h0) (by omega), bel2 hb2 hbq.drew⟩
              · have hrt : risingB R = true := by
                  rw [hri.out]
                  have hl1 : (R.drop j).length ≤ 1 := by rw [List.length_drop]; omega
                  generalize R.drop j = Z at hl1
                  match Z, hl1 with
                  | [], _ => rfl
                  | [_], _ => rfl
                have hld3 := Hld2.out
                rw [if_neg (by rw [hrt]; simp)] at hld3
                have hs3 : RowsIn wr A1 R.length R := SlR.below hs2 hbq
                have hr3 := hr2.below hbq
                have hb3 := bel2 hb2 hbq
                have hlt2 : decide ((j : Int) + 1 < R.length) = false := by simp; omega
                have hlt3 : decide (j + 1 < R.length) = false := by simp; omega
                have Hj := Lib.hid hj
                clear hrt hri hs2 hr2 hb2 hbq hj hlt
                by_cases hl0 : l1 = []
                · have he0 : endE l1 0 = 0 := by unfold endE; rw [if_pos rfl, if_pos hl0]
                  rw [if_pos hl0] at hld3
                  have Hld3 := Lib.hid hld3
                  have He0 := Lib.hid he0
                  clear hld3 he0 hl0
                  go_wp2_with fail
                  refine (rr_end _ g l1 0 hr3).mono ?_; rintro e w5 ⟨rfl, hb5⟩
                  rw [He0.out]
                  have hs5 : RowsIn w5 A1 R.length R := SlR.below hs3 hb5
                  go_wp2_with fail
                  go_ret2
                  exact ⟨A1, cap1, R.length, by rw [Hld3.out]; rfl, fun _ => by rw [Hrr.out]; exact hs5, bel2 hb3 hb5⟩
                · have he0 : endE l1 0 = 4 := by unfold endE; rw [if_pos rfl, if_neg hl0]
                  rw [if_neg hl0] at hld3
                  have Hld3 := Lib.hid hld3
                  have He0 := Lib.hid he0
                  clear hld3 he0 hl0
                  go_wp2_with fail
                  refine (rr_end _ g l1 0 hr3).mono ?_; rintro e w5 ⟨rfl, hb5⟩
                  rw [He0.out]
                  go_wp2_with fail
                  go_ret2
                  exact ⟨none, 0, 0, by rw [Hld3.out]; rfl, fun h0 => absurd (Hld3.out.symm.trans h0) (by omega), bel2 hb3 hb5⟩

      · have heb : (e1 == 0) = false := by simpa using he
        have hen : (e1 != 0) = true := by simpa using he
        have hld : loadE l = e1 := by unfold loadE; rw [Hfin.out, if_pos he]
        have Hld := Lib.hid hld
        have He := Lib.hid he
        clear hld he hgo hown
        by_cases hlt : k < N
        all_goals
          go_upto_region 13 with fail
          refine wp_region_lex (Bel wr) false (by kernel_rfl) (by kernel_rfl) (by kernel_rfl) (bel_drew wr) ?_
          have hne := bel_some wr
          have hS := bel_drew wr
          have b1 := sub_cell c1
          repeat (refine wpLx_loose ?_ ?_; (focus (simp only [chainOp]; done)); intro K hK; go_simp; refine hK _ ?_; clear hK K)
          refine wpLx_nil ?_
          intro hS
          go_wp2_with fail
          go_ret2
          exact ⟨none, 0, 0, by rw [Hld.out]; rfl, fun h0 => absurd (Hld.out.symm.trans h0) He.out, hb.drew⟩

end Go.Proofs.Ytlonihfhgfmplaa
