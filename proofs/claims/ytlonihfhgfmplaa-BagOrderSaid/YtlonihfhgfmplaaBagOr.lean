/- BagOrder: the walk. -/
import Derived.Test.YtlonihfhgfmplaaBagLo
namespace Go.Proofs.Ytlonihfhgfmplaa
open Go.RowKit

theorem addsOf_sm (l : List Act) : ∀ x ∈ addsOf l, small x := by
  intro x hx
  unfold addsOf at hx
  obtain ⟨a, _, hx⟩ := List.mem_flatMap.1 hx
  split at hx
  · split at hx
    · simp at hx
    · simp at hx; subst hx; unfold small; simp only; omega
  · simp at hx
theorem gonesOf_sm (l : List Act) : ∀ x ∈ gonesOf l, small x := by
  intro x hx
  unfold gonesOf at hx
  obtain ⟨a, _, hx⟩ := List.mem_flatMap.1 hx
  split at hx
  · simp at hx
  · split at hx
    · simp at hx
    · obtain ⟨t, _, rfl⟩ := List.mem_map.1 hx; unfold small; simp only; omega
@[go_sem] theorem storeAct_run (w : World) (g : Nat) (hg : g = w.heap.size) (z : Array Value) (hz : z.size = 35) (a : Act) (e : TypeId) : (stS 65 ⟨g, 0, none⟩ (.agg (actC a))).run Try.prog (w.alloc (.cells z e)) = .ok () (w.alloc (.cells (actC a) e)) := storeActV_run w g hg z hz _ rfl e
theorem act_box (W : World) (a : Act) : rowAt (W.alloc (.cells (actC a) 65)) W.heap.size 0 35 = some (actC a) := by
  unfold rowAt
  rw [heap_alloc_new]
  show (if 0 + 35 ≤ (actC a).size then some ((actC a).extract 0 (0 + 35)) else none) = _
  rw [if_pos (by rw [actC_size]; omega), Nat.zero_add]
  exact congrArg some (actVC_all _)

theorem play_idem (l : List Act) (a : Act) : playS (playS (runS ([], []) l) a) a = playS (runS ([], []) l) a :=
  Tells.uniq (((run_tells l).play a).play a) (((run_tells l).play a).congr (fun z => ⟨fun h => .inl h, fun h => h.elim id .inr⟩) (fun z => ⟨fun h => .inl h, fun h => h.elim id .inr⟩))
theorem run_rev (l : List Act) : runS ([], []) l.reverse = runS ([], []) l :=
  Tells.uniq (run_tells l.reverse) ((run_tells l).congr (fun z => by simp [addsOf]) (fun z => by simp [gonesOf]))
theorem few_rev {l : List Act} (h : FewActs l) : FewActs l.reverse := ⟨by simpa using h.1, fun a ha => h.2 a (by simpa using ha)⟩
theorem run_put {l : List Act} (h : FewActs l) : loadB (putB (runS ([], []) l).1 (runS ([], []) l).2) = 0 ∧ (partA (putB (runS ([], []) l).1 (runS ([], []) l).2)).rows = (runS ([], []) l).1 ∧ (partG (putB (runS ([], []) l).1 (runS ([], []) l).2)).rows = (runS ([], []) l).2 ∧ (putB (runS ([], []) l).1 (runS ([], []) l).2).length ≤ 1000000 := by
  have T := run_tells l
  have hl := run_len h l.length
  rw [List.take_length] at hl
  have sL : ∀ x ∈ (runS ([], []) l).1, small x := fun x hx => addsOf_sm l x ((T.live x).1 hx).1
  have sG : ∀ x ∈ (runS ([], []) l).2, small x := fun x hx => gonesOf_sm l x ((T.gone x).1 hx)
  obtain ⟨h1, h2, h3⟩ := put_load sL sG T.risL T.risG (fun x hx hg => ((T.live x).1 hx).2 ((T.gone x).1 hg)) (by omega) (by omega)
  refine ⟨h1, h2, h3, ?_⟩
  have l1 := rowsB_len sL
  have l2 := rowsB_len sG
  unfold putB
  rw [List.length_append]
  omega
theorem rev_at (R : List Act) (k : Nat) (h : k < R.length) : R.reverse.take (k + 1) = R.reverse.take k ++ [R[R.length - 1 - k]'(by omega)] := by
  rw [List.take_add_one, List.getElem?_eq_getElem (by simpa using h), List.getElem_reverse]; rfl

set_option maxRecDepth 100000 in
set_option maxHeartbeats 4000000 in
theorem bagOrder_any (w : World) (A : Option Addr) (n cap : Nat) (R : List Act) (A2 : Option Addr) (n2 cap2 : Nat) (T : List Bool) (at_ : Int) (h : ActsOk w A n R)
    (hT : SlR w A2 n2 1 (T.map fun b => #[.bool b])) (hn2 : n2 ≤ 9223372036854775807) (ha : 0 ≤ at_ ∧ at_ ≤ 255) :
    Calls Try.prog 12 #[.slice A n cap, .slice A2 n2 cap2, .int .u8 at_] w fun e w' => e = .returned (.bool true) ∧ Below w.heap.size w w' := by
  have hlen := h.rows.len
  have hbig := h.big
  have hTl : T.length = n2 := by simpa using hT.1
  go_enter Try.func12, Try.ntmps12
  go_wp2_with fail
  refine (bmuch w A n cap R h).mono ?_; rintro e w1 ⟨b, rfl, hfew, hb1⟩
  cases b with
  | true =>
    clear hfew
    go_wp2_with fail
    refine (awake_any _).mono ?_; rintro e w2 ⟨rfl, hb2⟩
    go_wp2_with fail
    go_ret
    exact ⟨rfl, bel2 hb1 hb2⟩
  | false =>
    have hf := hfew rfl
    clear hfew
    have hfl := hf.1
    have Hlen := Lib.hid hlen
    have Hf := Lib.hid hf
    have HTl := Lib.hid hTl
    have hn30 : n ≤ 30 := by omega
    clear hf hlen hTl hbig
    go_wp2_with fail
    refine (bnew _).mono ?_; rintro e w2 ⟨g, bl, bg, rfl, h2, hg, hl, hbg, hb2⟩
    have hsz1 := hb1.size
    have hlt2 := h2.lt
    have hw2 := bel2 hb1 hb2
    clear hb1 hb2
    go_wp2_with fail
    refine (bnew _).mono ?_; rintro e w3 ⟨g3, bl3, bg3, rfl, h3, hg3, hl3, hbg3, hb3⟩
    have hA3 := h2.below hb3
    have hw3 := bel2 hw2 hb3
    have hsep : bl3 ≠ g ∧ bl3 ≠ bl ∧ bl3 ≠ bg ∧ bg3 ≠ g ∧ bg3 ≠ bl ∧ bg3 ≠ bg ∧ w.heap.size ≤ bl3 ∧ w.heap.size ≤ bg3 := by omega
    have hsep2 : g3 ∉ [bl, bg] ∧ bl3 ∉ [bl, bg] ∧ bg3 ∉ [bl, bg] := by simp; omega
    have hwb : w.heap.size ≤ bl ∧ w.heap.size ≤ bg := by omega
    clear h2 hb3 hw2 hlt2 hg hl hbg hg3 hl3 hbg3 hsz1
    go_wp2_with fail
    go_loopw [9] (fun i wr => ∃ k : Nat, k ≤ n ∧ i = .int .i64 k ∧ BagAt wr g bl bg (runS ([], []) (R.take k)).1 (runS ([], []) (R.take k)).2 ∧ BagAt wr g3 bl3 bg3 [] [] ∧ Below w.heap.size w wr) (fun i _ => n - (intOf i).toNat)
    case atStart => exact ⟨0, Nat.zero_le _, rfl, hA3, h3, hw3⟩
    case round =>
      clear hw3 hA3 h3
      obtain ⟨k, hk, rfl, hB, h3, hbr⟩ := hrel
      by_cases hlt : k < n
      · obtain ⟨q, o, rfl, hr, -⟩ := ActsIn.get (SlR.below h.rows hbr) hlt (by rw [Hlen.out]; exact hlt)
        have heach := h.each (R[k]'(by rw [Hlen.out]; exact hlt)) (List.getElem_mem _)
        have hfew := Hf.out.2 (R[k]'(by rw [Hlen.out]; exact hlt)) (List.getElem_mem _)
        have htk : R.take (k + 1) = R.take k ++ [R[k]'(by rw [Hlen.out]; exact hlt)] := by rw [List.take_add_one, List.getElem?_eq_getElem (by rw [Hlen.out]; exact hlt)]; rfl
        obtain ⟨a, ha'⟩ : ∃ a, R[k]'(by rw [Hlen.out]; exact hlt) = a := ⟨_, rfl⟩
        rw [ha'] at hr heach hfew htk
        obtain ⟨s1, s2, s3⟩ := heach
        have htl := s1.len
        have hT' := SlR.below s1 hbr
        have hplay := bplay a wr g bl bg (runS ([], []) (R.take k)) hB hT' s2 (by omega)
        rw [← runS_snoc, ← htk] at hplay
        obtain ⟨S', hS'⟩ : ∃ S', runS ([], []) (R.take (k + 1)) = S' := ⟨_, rfl⟩
        rw [hS'] at hplay
        have HS := Lib.hid hS'
        clear hS' htk hfew htl hT' ha' hB
        go_wp2_with fail
        refine hplay.mono ?_; rintro e w4 ⟨rfl, hB4, hk4⟩
        have h34 := h3.kept hk4 hsep2.1 hsep2.2.1 hsep2.2.2
        have hw4 : Below w.heap.size w w4 := hbr.trans (hk4.below (B := w.heap.size) hbr.size (by simp; omega))
        clear hplay hr h3 hbr hk4
        go_wp2_with fail
        go_roundw
        case rel => exact ⟨k + 1, by omega, by go_num, by rw [HS.out]; exact hB4, h34, hw4⟩
        case measure => simp [intOf]; omega
      · have hR : R.take k = R := List.take_of_length_le (by rw [Hlen.out]; omega)
        rw [hR] at hB
        obtain ⟨L, hL⟩ : ∃ L, runS ([], []) R = L := ⟨_, rfl⟩
        rw [hL] at hB
        have HL := Lib.hid hL
        have hlnR : (runS ([], []) R).1.length ≤ 30 ∧ (runS ([], []) R).2.length ≤ 360 := by have := run_len Hf.out R.length; rwa [List.take_length] at this
        rw [hL] at hlnR
        clear hR hL hsep2
        go_wp2_with fail
        obtain ⟨k0, hk0⟩ : ∃ k0, k = k0 := ⟨_, rfl⟩
        subst hk0
        go_loopw [8, 10] (fun bp i wr => ∃ (k g4 bl4 bg4 : Nat), k ≤ n ∧ i = .int .i64 k ∧ bp = .pointer (some ⟨g4, 0, none⟩) ∧ BagAt wr g bl bg L.1 L.2 ∧ BagAt wr g4 bl4 bg4 (runS ([], []) (R.reverse.take k)).1 (runS ([], []) (R.reverse.take k)).2 ∧ (bl4 ≠ g ∧ bl4 ≠ bl ∧ bl4 ≠ bg ∧ bg4 ≠ g ∧ bg4 ≠ bl ∧ bg4 ≠ bg ∧ w.heap.size ≤ bl4 ∧ w.heap.size ≤ bg4) ∧ Below w.heap.size w wr) (fun _ i _ => n - (intOf i).toNat)
        case atStart => exact ⟨0, g3, bl3, bg3, Nat.zero_le _, rfl, rfl, hB, h3, hsep, hbr⟩
        case round =>
          clear hbr hB h3 hsep hlt hk
          obtain ⟨k, g4, bl4, bg4, hkn, rfl, rfl, hA, hB, hsep, hw3⟩ := hrel
          by_cases hlt : k < n
          · obtain ⟨m, hm⟩ : ∃ m : Nat, (n : Int) - 1 - (k : Int) = (m : Int) := ⟨n - 1 - k, by omega⟩
            have hmn : m < n := by omega
            have hmk : R.length - 1 - k = m := by rw [Hlen.out]; omega
            obtain ⟨q, o, rfl, hr, -⟩ := ActsIn.get (SlR.below h.rows hw3) hmn (by rw [Hlen.out]; exact hmn)
            have heach := h.each (R[m]'(by rw [Hlen.out]; exact hmn)) (List.getElem_mem _)
            have hfew := Hf.out.2 (R[m]'(by rw [Hlen.out]; exact hmn)) (List.getElem_mem _)
            have htk : runS ([], []) (R.reverse.take (k + 1)) = playS (runS ([], []) (R.reverse.take k)) (R[m]'(by rw [Hlen.out]; exact hmn)) := by
              rw [rev_at R k (by rw [Hlen.out]; exact hlt), runS_snoc]
              simp only [hmk]
            obtain ⟨a, ha'⟩ : ∃ a, R[m]'(by rw [Hlen.out]; exact hmn) = a := ⟨_, rfl⟩
            rw [ha'] at hr heach hfew htk
            obtain ⟨s1, s2, s3⟩ := heach
            have htl := s1.len
            have hfr := few_take (few_rev Hf.out) (k + 1)
            have hln : (runS ([], []) (R.reverse.take (k + 1))).1.length ≤ 30 ∧ (runS ([], []) (R.reverse.take (k + 1))).2.length ≤ 360 := by have := run_len hfr (R.reverse.take (k + 1)).length; rwa [List.take_length] at this
            have hput := run_put hfr
            have hplay := fun w' (hB' : BagAt w' g4 bl4 bg4 (runS ([], []) (R.reverse.take k)).1 (runS ([], []) (R.reverse.take k)).2) (hb' : Below w.heap.size w w') => bplay a w' g4 bl4 bg4 (runS ([], []) (R.reverse.take k)) hB' (SlR.below s1 hb') s2 (by omega)
            have hid := play_idem (R.reverse.take k) a
            rw [← htk] at hplay hid
            obtain ⟨S', hS'⟩ : ∃ S', runS ([], []) (R.reverse.take (k + 1)) = S' := ⟨_, rfl⟩
            rw [hS'] at hplay hln hput hid
            have hplay2 := fun w' (hB' : BagAt w' g4 bl4 bg4 S'.1 S'.2) (hb' : Below w.heap.size w w') => bplay a w' g4 bl4 bg4 S' hB' (SlR.below s1 hb') s2 (by omega)
            rw [hid] at hplay2
            have HS := Lib.hid hS'
            have Hput := Lib.hid hput
            have Hln := Lib.hid hln
            clear hS' htk hfew htl ha' hput hln hid hfr hmk
            have hboxr : rowAt (wr.alloc (.cells (actC a) 65)) wr.heap.size 0 35 = some (actC a) := act_box wr a
            have hbA : Below wr.heap.size wr (wr.alloc (.cells (actC a) 65)) := (Below.refl _ _).alloc (Nat.le_refl _) _
            have hA4 := hA.below hbA
            have hB4 := hB.below hbA
            have hwA := bel2 hw3 hbA
            have hbl4 := hB.lt
            have m0 : (0 : Int) ≤ (m : Int) := by omega
            have m1 : (m : Int) < n := by omega
            go_upto_region 13 with fail
            obtain ⟨bq, hbq⟩ : ∃ bq, wr.heap.size = bq := ⟨_, rfl⟩
            rw [hbq] at hboxr hbl4 ⊢
            have hbqA : bq < (wr.alloc (.cells (actC a) 65)).heap.size := by simp; omega
            have hqb : bq ∉ [bl4, bg4] := by simp; omega
            have hke1 : g ∉ [bl4, bg4] ∧ bl ∉ [bl4, bg4] ∧ bg ∉ [bl4, bg4] := by simp; omega
            clear hm hr hbq hw3 hA hB hbA m0 m1 hbl4
            generalize wr.alloc (.cells (actC a) 65) = W at *
            go_wp2_with fail
            refine (hplay _ hB4 hwA).mono ?_; rintro e w5 ⟨rfl, hB5, hk5⟩
            have hw5 : Below w.heap.size w w5 := hwA.trans (hk5.below (B := w.heap.size) hwA.size (by simp; omega))
            have hA5 := hA4.kept hk5 hke1.1 hke1.2.1 hke1.2.2
            have hbox5 : rowAt w5 bq 0 35 = some (actC a) := (hk5.row hbqA hqb 0 35).trans hboxr
            have hT5 : SlR w5 A2 n2 1 (T.map fun b => #[.bool b]) := hT.below hw5
            clear hk5 hboxr hA4 hB4 hwA hbqA hplay
            obtain ⟨tw, htw⟩ : ∃ tw, T.getD k false = tw := ⟨_, rfl⟩
            have hcell : k < n2 → ∃ q2 o2, A2 = some ⟨q2, o2, none⟩ ∧ w5.cell? ⟨q2, o2 + k, none⟩ = some (.bool tw) := fun hk2 => by
              obtain ⟨q2, o2, e, hr2⟩ := hT5.at_ hk2
              refine ⟨q2, o2, e, ?_⟩
              have h1 := rowAt_cell hr2 (j := 0) (by omega)
              simp only [Nat.mul_one, Nat.add_zero, List.getElem_map] at h1
              rw [h1]
              have h2 : T.getD k false = T[k]'(by rw [HTl.out]; exact hk2) := by simp [List.getD, List.getElem?_eq_getElem (show k < T.length by rw [HTl.out]; exact hk2)]
              rw [← htw, h2]; rfl
            clear htw hT5
            cases tw with
            | true =>
              by_cases hk2 : k < n2
              · obtain ⟨q2, o2, rfl, hc2⟩ := hcell hk2
                clear hcell
                go_wp2_with fail
                refine (hplay2 _ hB5 hw5).mono ?_; rintro e w6 ⟨rfl, hB6, hk6⟩
                have hw6 : Below w.heap.size w w6 := hw5.trans (hk6.below (B := w.heap.size) hw5.size (by simp; omega))
                have hA6 := hA5.kept hk6 hke1.1 hke1.2.1 hke1.2.2
                clear hw5 hA5 hB5 hk6 hc2 hbox5 hplay2
                cases hat : ((k : Int) == at_) with
                | false =>
                  go_wp2_with fail
                  go_roundw
                  case rel => exact ⟨k + 1, g4, bl4, bg4, by omega, by go_num, rfl, hA6, by rw [HS.out]; exact hB6, hsep, hw6⟩
                  case measure => simp [intOf]; omega
                | true =>
                  have hL1 := Hln.out.1
                  have hL2 := Hln.out.2
                  obtain ⟨hp1, hp2, hp3, hp4⟩ := Hput.out
                  obtain ⟨ps, hps⟩ : ∃ ps : ByteArray, (⟨(putB S'.1 S'.2).toArray⟩ : ByteArray) = ps := ⟨_, rfl⟩
                  have hpd : ps.data.toList = putB S'.1 S'.2 := by rw [← hps]
                  have hpz : ps.size ≤ 1000000 := by
                    have e : ps.data.toList.length = ps.size := Array.length_toList
                    rw [← e, hpd]; exact hp4
                  have cp := fun w' (hB : BagAt w' g4 bl4 bg4 S'.1 S'.2) => bput w' g4 bl4 bg4 S'.1 S'.2 hB (by omega) (by omega)
                  rw [hps] at cp
                  have cl : ∀ w1, Calls Try.prog 42 #[.string ps] w1 fun e w' => ∃ g5 bl5 bg5, e = .returned (.tuple #[.pointer (some ⟨g5, 0, none⟩), .int .i64 0]) ∧ BagAt w' g5 bl5 bg5 S'.1 S'.2 ∧ w1.heap.size ≤ bl5 ∧ w1.heap.size ≤ bg5 ∧ Below w1.heap.size w1 w' := fun w1 => (bload w1 ps hpz).mono fun e w' h => by
                    obtain ⟨P, h, hP, _, hb⟩ := h
                    rw [hpd, hp1] at h
                    rw [hpd] at hP
                    obtain ⟨g5, bl5, bg5, rfl, hB, _, h1, h2⟩ := hP hp1
                    rw [hp2, hp3] at hB
                    exact ⟨g5, bl5, bg5, h, hB, h1, h2, hb⟩
                  clear hps hpd hpz hp1 hp2 hp3 hp4
                  go_wp2_with fail
                  refine (cp _ hB6).mono ?_; rintro e w7 ⟨rfl, hb7⟩
                  have hA7 := hA6.below hb7
                  have hw7 := bel2 hw6 hb7
                  clear hB6 hA6 hb7 hw6 cp
                  go_wp2_with fail
                  refine (cl _).mono ?_; rintro e w8 ⟨g5, bl5, bg5, rfl, hB8, hg1, hg2, hb8⟩
                  have hlt7 := hA7.lt
                  have hsz7 := hw7.size
                  have hA8 := hA7.below hb8
                  have hw8 := bel2 hw7 hb8
                  have hsep5 : bl5 ≠ g ∧ bl5 ≠ bl ∧ bl5 ≠ bg ∧ bg5 ≠ g ∧ bg5 ≠ bl ∧ bg5 ≠ bg ∧ w.heap.size ≤ bl5 ∧ w.heap.size ≤ bg5 := by omega
                  clear hA7 hw7 hb8 cl hlt7 hsz7 hg1 hg2 hsep
                  go_wp2_with fail
                  go_roundw
                  case rel => exact ⟨k + 1, g5, bl5, bg5, by omega, by go_num, rfl, hA8, by rw [HS.out]; exact hB8, hsep5, hw8⟩
                  case measure => simp [intOf]; omega
              · clear hcell hplay2
                have hB6 := hB5; have hA6 := hA5; have hw6 := hw5
                clear hw5 hA5 hB5 hbox5
                go_upto_region 16 with fail
                cases hat : ((k : Int) == at_) with
                | false =>
                  go_wp2_with fail
                  go_roundw
                  case rel => exact ⟨k + 1, g4, bl4, bg4, by omega, by go_num, rfl, hA6, by rw [HS.out]; exact hB6, hsep, hw6⟩
                  case measure => simp [intOf]; omega
                | true =>
                  have hL1 := Hln.out.1
                  have hL2 := Hln.out.2
                  obtain ⟨hp1, hp2, hp3, hp4⟩ := Hput.out
                  obtain ⟨ps, hps⟩ : ∃ ps : ByteArray, (⟨(putB S'.1 S'.2).toArray⟩ : ByteArray) = ps := ⟨_, rfl⟩
                  have hpd : ps.data.toList = putB S'.1 S'.2 := by rw [← hps]
                  have hpz : ps.size ≤ 1000000 := by
                    have e : ps.data.toList.length = ps.size := Array.length_toList
                    rw [← e, hpd]; exact hp4
                  have cp := fun w' (hB : BagAt w' g4 bl4 bg4 S'.1 S'.2) => bput w' g4 bl4 bg4 S'.1 S'.2 hB (by omega) (by omega)
                  rw [hps] at cp
                  have cl : ∀ w1, Calls Try.prog 42 #[.string ps] w1 fun e w' => ∃ g5 bl5 bg5, e = .returned (.tuple #[.pointer (some ⟨g5, 0, none⟩), .int .i64 0]) ∧ BagAt w' g5 bl5 bg5 S'.1 S'.2 ∧ w1.heap.size ≤ bl5 ∧ w1.heap.size ≤ bg5 ∧ Below w1.heap.size w1 w' := fun w1 => (bload w1 ps hpz).mono fun e w' h => by
                    obtain ⟨P, h, hP, _, hb⟩ := h
                    rw [hpd, hp1] at h
                    rw [hpd] at hP
                    obtain ⟨g5, bl5, bg5, rfl, hB, _, h1, h2⟩ := hP hp1
                    rw [hp2, hp3] at hB
                    exact ⟨g5, bl5, bg5, h, hB, h1, h2, hb⟩
                  clear hps hpd hpz hp1 hp2 hp3 hp4
                  go_wp2_with fail
                  refine (cp _ hB6).mono ?_; rintro e w7 ⟨rfl, hb7⟩
                  have hA7 := hA6.below hb7
                  have hw7 := bel2 hw6 hb7
                  clear hB6 hA6 hb7 hw6 cp
                  go_wp2_with fail
                  refine (cl _).mono ?_; rintro e w8 ⟨g5, bl5, bg5, rfl, hB8, hg1, hg2, hb8⟩
                  have hlt7 := hA7.lt
                  have hsz7 := hw7.size
                  have hA8 := hA7.below hb8
                  have hw8 := bel2 hw7 hb8
                  have hsep5 : bl5 ≠ g ∧ bl5 ≠ bl ∧ bl5 ≠ bg ∧ bg5 ≠ g ∧ bg5 ≠ bl ∧ bg5 ≠ bg ∧ w.heap.size ≤ bl5 ∧ w.heap.size ≤ bg5 := by omega
                  clear hA7 hw7 hb8 cl hlt7 hsz7 hg1 hg2 hsep
                  go_wp2_with fail
                  go_roundw
                  case rel => exact ⟨k + 1, g5, bl5, bg5, by omega, by go_num, rfl, hA8, by rw [HS.out]; exact hB8, hsep5, hw8⟩
                  case measure => simp [intOf]; omega
            | false =>
              clear hplay2
              by_cases hk2 : k < n2
              · obtain ⟨q2, o2, rfl, hc2⟩ := hcell hk2
                clear hcell
                have hB6 := hB5; have hA6 := hA5; have hw6 := hw5
                clear hw5 hA5 hB5 hbox5
                go_upto_region 16 with fail
                cases hat : ((k : Int) == at_) with
                | false =>
                  go_wp2_with fail
                  go_roundw
                  case rel => exact ⟨k + 1, g4, bl4, bg4, by omega, by go_num, rfl, hA6, by rw [HS.out]; exact hB6, hsep, hw6⟩
                  case measure => simp [intOf]; omega
                | true =>
                  have hL1 := Hln.out.1
                  have hL2 := Hln.out.2
                  obtain ⟨hp1, hp2, hp3, hp4⟩ := Hput.out
                  obtain ⟨ps, hps⟩ : ∃ ps : ByteArray, (⟨(putB S'.1 S'.2).toArray⟩ : ByteArray) = ps := ⟨_, rfl⟩
                  have hpd : ps.data.toList = putB S'.1 S'.2 := by rw [← hps]
                  have hpz : ps.size ≤ 1000000 := by
                    have e : ps.data.toList.length = ps.size := Array.length_toList
                    rw [← e, hpd]; exact hp4
                  have cp := fun w' (hB : BagAt w' g4 bl4 bg4 S'.1 S'.2) => bput w' g4 bl4 bg4 S'.1 S'.2 hB (by omega) (by omega)
                  rw [hps] at cp
                  have cl : ∀ w1, Calls Try.prog 42 #[.string ps] w1 fun e w' => ∃ g5 bl5 bg5, e = .returned (.tuple #[.pointer (some ⟨g5, 0, none⟩), .int .i64 0]) ∧ BagAt w' g5 bl5 bg5 S'.1 S'.2 ∧ w1.heap.size ≤ bl5 ∧ w1.heap.size ≤ bg5 ∧ Below w1.heap.size w1 w' := fun w1 => (bload w1 ps hpz).mono fun e w' h => by
                    obtain ⟨P, h, hP, _, hb⟩ := h
                    rw [hpd, hp1] at h
                    rw [hpd] at hP
                    obtain ⟨g5, bl5, bg5, rfl, hB, _, h1, h2⟩ := hP hp1
                    rw [hp2, hp3] at hB
                    exact ⟨g5, bl5, bg5, h, hB, h1, h2, hb⟩
                  clear hps hpd hpz hp1 hp2 hp3 hp4
                  go_wp2_with fail
                  refine (cp _ hB6).mono ?_; rintro e w7 ⟨rfl, hb7⟩
                  have hA7 := hA6.below hb7
                  have hw7 := bel2 hw6 hb7
                  clear hB6 hA6 hb7 hw6 cp
                  go_wp2_with fail
                  refine (cl _).mono ?_; rintro e w8 ⟨g5, bl5, bg5, rfl, hB8, hg1, hg2, hb8⟩
                  have hlt7 := hA7.lt
                  have hsz7 := hw7.size
                  have hA8 := hA7.below hb8
                  have hw8 := bel2 hw7 hb8
                  have hsep5 : bl5 ≠ g ∧ bl5 ≠ bl ∧ bl5 ≠ bg ∧ bg5 ≠ g ∧ bg5 ≠ bl ∧ bg5 ≠ bg ∧ w.heap.size ≤ bl5 ∧ w.heap.size ≤ bg5 := by omega
                  clear hA7 hw7 hb8 cl hlt7 hsz7 hg1 hg2 hsep
                  go_wp2_with fail
                  go_roundw
                  case rel => exact ⟨k + 1, g5, bl5, bg5, by omega, by go_num, rfl, hA8, by rw [HS.out]; exact hB8, hsep5, hw8⟩
                  case measure => simp [intOf]; omega
              · clear hcell
                have hB6 := hB5; have hA6 := hA5; have hw6 := hw5
                clear hw5 hA5 hB5 hbox5
                go_upto_region 16 with fail
                cases hat : ((k : Int) == at_) with
                | false =>
                  go_wp2_with fail
                  go_roundw
                  case rel => exact ⟨k + 1, g4, bl4, bg4, by omega, by go_num, rfl, hA6, by rw [HS.out]; exact hB6, hsep, hw6⟩
                  case measure => simp [intOf]; omega
                | true =>
                  have hL1 := Hln.out.1
                  have hL2 := Hln.out.2
                  obtain ⟨hp1, hp2, hp3, hp4⟩ := Hput.out
                  obtain ⟨ps, hps⟩ : ∃ ps : ByteArray, (⟨(putB S'.1 S'.2).toArray⟩ : ByteArray) = ps := ⟨_, rfl⟩
                  have hpd : ps.data.toList = putB S'.1 S'.2 := by rw [← hps]
                  have hpz : ps.size ≤ 1000000 := by
                    have e : ps.data.toList.length = ps.size := Array.length_toList
                    rw [← e, hpd]; exact hp4
                  have cp := fun w' (hB : BagAt w' g4 bl4 bg4 S'.1 S'.2) => bput w' g4 bl4 bg4 S'.1 S'.2 hB (by omega) (by omega)
                  rw [hps] at cp
                  have cl : ∀ w1, Calls Try.prog 42 #[.string ps] w1 fun e w' => ∃ g5 bl5 bg5, e = .returned (.tuple #[.pointer (some ⟨g5, 0, none⟩), .int .i64 0]) ∧ BagAt w' g5 bl5 bg5 S'.1 S'.2 ∧ w1.heap.size ≤ bl5 ∧ w1.heap.size ≤ bg5 ∧ Below w1.heap.size w1 w' := fun w1 => (bload w1 ps hpz).mono fun e w' h => by
                    obtain ⟨P, h, hP, _, hb⟩ := h
                    rw [hpd, hp1] at h
                    rw [hpd] at hP
                    obtain ⟨g5, bl5, bg5, rfl, hB, _, h1, h2⟩ := hP hp1
                    rw [hp2, hp3] at hB
                    exact ⟨g5, bl5, bg5, h, hB, h1, h2, hb⟩
                  clear hps hpd hpz hp1 hp2 hp3 hp4
                  go_wp2_with fail
                  refine (cp _ hB6).mono ?_; rintro e w7 ⟨rfl, hb7⟩
                  have hA7 := hA6.below hb7
                  have hw7 := bel2 hw6 hb7
                  clear hB6 hA6 hb7 hw6 cp
                  go_wp2_with fail
                  refine (cl _).mono ?_; rintro e w8 ⟨g5, bl5, bg5, rfl, hB8, hg1, hg2, hb8⟩
                  have hlt7 := hA7.lt
                  have hsz7 := hw7.size
                  have hA8 := hA7.below hb8
                  have hw8 := bel2 hw7 hb8
                  have hsep5 : bl5 ≠ g ∧ bl5 ≠ bl ∧ bl5 ≠ bg ∧ bg5 ≠ g ∧ bg5 ≠ bl ∧ bg5 ≠ bg ∧ w.heap.size ≤ bl5 ∧ w.heap.size ≤ bg5 := by omega
                  clear hA7 hw7 hb8 cl hlt7 hsz7 hg1 hg2 hsep
                  go_wp2_with fail
                  go_roundw
                  case rel => exact ⟨k + 1, g5, bl5, bg5, by omega, by go_num, rfl, hA8, by rw [HS.out]; exact hB8, hsep5, hw8⟩
                  case measure => simp [intOf]; omega
          · have hR : R.reverse.take k = R.reverse := List.take_of_length_le (by rw [List.length_reverse, Hlen.out]; omega)
            rw [hR, run_rev, HL.out] at hB
            have hlb := listB_len L.1
            obtain ⟨LB, hLB⟩ : ∃ LB, listB L.1 = LB := ⟨_, rfl⟩
            rw [hLB] at hlb
            have HLB := Lib.hid hLB
            clear hR hkn hsep hLB
            go_wp2_with fail
            refine (bput _ _ _ _ L.1 L.2 hA (by omega) (by omega)).mono ?_; rintro e w5 ⟨rfl, hb5⟩
            have hA5 := hA.below hb5
            have hB5 := hB.below hb5
            have hw5 := bel2 hw3 hb5
            clear hA hB hw3 hb5
            obtain ⟨s5, hs5⟩ : ∃ s5 : ByteArray, (⟨(putB L.1 L.2).toArray⟩ : ByteArray) = s5 := ⟨_, rfl⟩
            rw [hs5]
            have Hs5 := Lib.hid hs5
            clear hs5
            go_wp2_with fail
            refine (bput _ _ _ _ L.1 L.2 hB5 (by omega) (by omega)).mono ?_; rintro e w6 ⟨rfl, hb6⟩
            rw [Hs5.out]
            have hA6 := hA5.below hb6
            have hB6 := hB5.below hb6
            have hw6 := bel2 hw5 hb6
            clear hA5 hB5 hw5 hb6
            go_wp2_with fail
            refine (blist _ _ _ _ L.1 L.2 hA6 (by omega)).mono ?_; rintro e w7 ⟨A7, cap7, rfl, hown7, hb7⟩
            rw [HLB.out] at hown7 ⊢
            have hB7 := hB6.below hb7
            have hw7 := bel2 hw6 hb7
            clear hA6 hB6 hw6
            go_wp2_with fail
            refine (blist _ _ _ _ L.1 L.2 hB7 (by omega)).mono ?_; rintro e w8 ⟨A8, cap8, rfl, hown8, hb8⟩
            rw [HLB.out] at hown8 ⊢
            have hw8 := bel2 hw7 hb8
            have hp7 : PairsIn w8 A7 LB.length (LB.map pairV) := by
              have := (hown7.below hb8).slr
              unfold PairsIn
              rw [List.map_map]
              exact this
            have hp8 : PairsIn w8 A8 LB.length (LB.map pairV) := by
              have := hown8.slr
              unfold PairsIn
              rw [List.map_map]
              exact this
            clear hB7 hw7 hown7 hown8 hb7 hb8
            go_wp2_with fail
            refine (rpairs w8 _ _ _ _ _ _ _ _ hp7 hp8 (by omega) (by omega)).mono ?_; rintro e w10 ⟨rfl, hb10⟩
            rw [decide_eq_true rfl]
            have hw10 := bel2 hw8 hb10
            go_wp2_with fail
            refine (awake_any _).mono ?_; rintro e w11 ⟨rfl, hb11⟩
            go_wp2_with fail
            go_ret
            exact ⟨rfl, bel2 hw10 hb11⟩

end Go.Proofs.Ytlonihfhgfmplaa
