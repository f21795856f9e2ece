/- Package last: Load. -/
import Derived.Test.YtlonihfhgfmplaaRead
import Derived.Test.YtlonihfhgfmplaaOrder
namespace Go.Proofs.Ytlonihfhgfmplaa
open Go.RowKit

def LoadRes (w : World) (l : List UInt8) (e : Ending) (w' : World) : Prop :=
  ((loadE l ≠ 0 ∧ e = .returned (.tuple #[.pointer none, .int .i64 (loadE l)])) ∨
   (loadE l = 0 ∧ ∃ g b, e = .returned (.tuple #[.pointer (some ⟨g, 0, none⟩), .int .i64 0]) ∧ LastAt w' g b ((readRds l).rows.map rowL) ∧ w.heap.size ≤ g ∧ w.heap.size ≤ b)) ∧ Below w.heap.size w w'
theorem LoadRes.bad {w w' : World} {l : List UInt8} {E : Int} (h : loadE l = E) (hE : E ≠ 0) (hb : Below w.heap.size w w') : LoadRes w l (.returned (.tuple #[.pointer none, .int .i64 E])) w' :=
  ⟨.inl ⟨by rw [h]; exact hE, by rw [h]⟩, hb⟩
theorem NmsIn.get {w : World} {A : Option Addr} {n : Nat} {R : List Row} (h : SlR w A n 35 (nmsC R)) {i : Nat} (hi : i < n) (hR : i < R.length) :
    ∃ g o, A = some ⟨g, o, none⟩ ∧ rowAt w g (o + i * 35) 35 = some (nmC ⟨(R[i]).key, rowS R[i]⟩) ∧ w.cell? ⟨g, o + i * 35, none⟩ = some (.string (R[i]).key) := by
  obtain ⟨g, o, e, hr⟩ := h.at_ hi
  have e2 : (nmsC R)[i]'(by rw [h.1]; exact hi) = nmC ⟨(R[i]).key, rowS R[i]⟩ := by unfold nmsC; rw [List.getElem_map]; rfl
  rw [e2] at hr
  refine ⟨g, o, e, hr, ?_⟩
  have := rowAt_cell hr (j := 0) (by omega)
  rwa [nmC_g0] at this
theorem rising_at : ∀ {R : List Row}, risingB R = true → ∀ {j : Nat} (hj : j + 1 < R.length), bltS (R[j]).key (R[j + 1]).key = true
  | x :: y :: R, h, 0, _ => by unfold risingB at h; rw [Bool.and_eq_true] at h; exact h.1
  | x :: y :: R, h, j + 1, hj => by
    unfold risingB at h; rw [Bool.and_eq_true] at h
    have := rising_at h.2 (j := j) (by simpa using hj)
    simpa using this
  | [], _, _, hj => by simp at hj
  | [x], _, _, hj => by simp at hj
theorem getL_less : ∀ {X : List LRow} {k : ByteArray}, (∀ q ∈ X, cmpS q.1 k < 0) → getL X k = none
  | [], _, _ => rfl
  | a :: X, k, h => by
    have ha := h a (by simp)
    rw [getL_cons, if_neg (fun e => by rw [e] at ha; exact cmpS_irr ha)]
    exact getL_less fun q hq => h q (by simp [hq])
theorem insL_end : ∀ {X : List LRow} {k : ByteArray} {x : Setting}, (∀ q ∈ X, cmpS q.1 k < 0) → insL X k x = X ++ [(k, x)]
  | [], _, _, _ => rfl
  | a :: X, k, x, h => by
    unfold insL
    rw [if_pos (h a (by simp)), insL_end fun q hq => h q (by simp [hq])]; rfl
theorem rising_all : ∀ {X : List LRow} {k : ByteArray}, Rising X → (∀ q, X.getLast? = some q → cmpS q.1 k < 0) → ∀ q ∈ X, cmpS q.1 k < 0
  | [], _, _, _ => by simp
  | [a], k, _, h => by intro q hq; simp at hq; subst hq; exact h q rfl
  | a :: b :: X, k, hr, h => by
    have ih := rising_all (k := k) hr.2 (fun q hq => h q (by rw [List.getLast?_cons_cons]; exact hq))
    intro q hq
    rcases List.mem_cons.1 hq with e | hq
    · rw [e]; exact cmpS_trans _ _ _ (hr.1 b (by simp)) (ih b (by simp))
    · exact ih q hq
theorem take_last {R : List Row} {j : Nat} (hj : j + 1 ≤ R.length) : ((R.take (j + 1)).map rowL).getLast? = some (rowL (R[j]'(by omega))) := by
  rw [List.take_add_one, List.getElem?_eq_getElem (by omega), List.map_append, List.getLast?_append]
  simp
theorem take_more {R : List Row} {j : Nat} (hj : j < R.length) : (R.take (j + 1)).map rowL = (R.take j).map rowL ++ [(R[j].key, rowS R[j])] := by
  rw [List.take_add_one, List.getElem?_eq_getElem hj, List.map_append]
  rfl

theorem loop_length : ∀ (k : Nat) (s : Rds), (loopRds k s).rows.length ≤ s.rows.length + k
  | 0, s => by simp [loopRds]
  | k + 1, s => by
    by_cases he : s.e = 0
    · rw [loopRds_step k s he]
      have := loop_length k (stepRds s)
      simp only [stepRds, List.length_append, List.length_singleton] at this ⊢
      omega
    · rw [loopRds_stop _ _ he]; omega
theorem read_length (l : List UInt8) : (readRds l).rows.length ≤ 4294967296 := by
  have := loop_length (numV 4 l 0) ⟨[], rawL 4 l 0, rawE 4 l 0⟩
  have := numV_lt 4 l 0
  simp only [List.length_nil] at *
  unfold readRds
  omega

set_option maxRecDepth 100000 in
set_option maxHeartbeats 4000000 in
theorem lload (w : World) (s : ByteArray) (hs : s.size ≤ 9223372036854775807) : Calls Try.prog 24 #[.string s] w (LoadRes w s.data.toList) := by
  obtain ⟨l, hl⟩ : ∃ l, s.data.toList = l := ⟨_, rfl⟩
  have hRl := read_length l
  rw [hl]
  have Hl := Lib.hid hl
  clear hl
  go_enter Try.func24, Try.ntmps24
  go_wp2_with fail
  refine (rd_open s _ hs).mono ?_; rintro e w1 ⟨rfl, hr1, hb1⟩
  rw [Hl.out] at hr1
  clear Hl
  obtain ⟨g0, hg0⟩ : ∃ g0, w.heap.size = g0 := ⟨_, rfl⟩
  have hg0w : w.heap.size ≤ g0 := by omega
  rw [hg0] at hr1
  have hg01 : g0 < w1.heap.size := hr1.lt
  have Hg0 := Lib.hid hg0
  go_wp2_with fail
  clear hg0
  refine (lread _ g0 l hr1).mono ?_; rintro e w2 ⟨A, cap, rfl, hown, hr2, hk2, hft⟩
  have hb2 : Below w.heap.size w w2 := hb1.trans (hk2.below hb1.size (by simp; omega))
  have hld : loadE l = if (readRds l).e ≠ 0 then (readRds l).e else if firstE (readRds l).rows ≠ 0 then firstE (readRds l).rows else if risingB (readRds l).rows = false then 4 else if (readRds l).l = [] then 0 else 4 := rfl
  obtain ⟨R, hR⟩ : ∃ R, (readRds l).rows = R := ⟨_, rfl⟩
  obtain ⟨l1, hl1⟩ : ∃ l1, (readRds l).l = l1 := ⟨_, rfl⟩
  obtain ⟨e1, he1⟩ : ∃ e1, (readRds l).e = e1 := ⟨_, rfl⟩
  rw [hR, hl1, he1] at hld
  rw [hR] at hown hft hRl ⊢
  rw [hl1, he1] at hr2
  have HR := Lib.hid hR
  have Hld := Lib.hid hld
  have Hft := Lib.hid hft
  have hs2 : SlR w2 A R.length 35 (nmsC R) := hown.slr
  have hA2 : ∀ x ∈ blk A, x < w2.heap.size := fun x hx => (hown.at_base hx).2
  clear hR hl1 he1 hld hown hft hb1 hr1 hk2
  cases he : (e1 == 0) with
  | false =>
    have he' : e1 ≠ 0 := by simpa using he
    have hen : (e1 != 0) = true := by simpa using he'
    have hE : loadE l = e1 := by rw [Hld.out, if_pos he']
    have HE := Lib.hid hE
    have He := Lib.hid he'
    clear hE he'
    go_wp2_with fail
    refine (rd_err _ g0 l1 e1 hr2).mono ?_; rintro e w3 ⟨rfl, rfl⟩
    go_wp2_with fail
    refine (rd_err _ g0 l1 e1 hr2).mono ?_; rintro e w3 ⟨rfl, rfl⟩
    go_wp2_with fail
    go_ret2
    exact LoadRes.bad HE.out He.out hb2
  | true =>
    obtain rfl : e1 = 0 := by simpa using he
    have hld := Hld.out
    rw [if_neg (by simp)] at hld
    have Hld := Lib.hid hld
    clear hld he
    go_wp2_with fail
    refine (rd_err _ g0 l1 0 hr2).mono ?_; rintro e w3 ⟨rfl, rfl⟩
    go_wp2_with fail
    obtain ⟨wo, rfl⟩ : ∃ wo : World, wo = w2 := ⟨_, rfl⟩
    go_loopw [23] (fun i wq => ∃ j : Nat, j ≤ R.length ∧ i = .int .i64 j ∧ Hid (firstE R = firstE (R.drop j)) ∧ Below wo.heap.size wo wq) (fun i _ => R.length - (intOf i).toNat)
    case atStart => exact ⟨0, Nat.zero_le _, rfl, (show _ = _ from rfl), Below.refl _ _⟩
    case round =>
      obtain ⟨j, hj, rfl, hfe, hbq⟩ := hrel
      by_cases hlt : j < R.length
      · obtain ⟨q, o, rfl, hrow, _⟩ := NmsIn.get (SlR.below hs2 hbq) hlt hlt
        have hdr : R.drop j = R[j] :: R.drop (j + 1) := List.drop_eq_getElem_cons hlt
        have hfit := Hft.out _ (List.getElem_mem hlt)
        obtain ⟨x, hx⟩ : ∃ x, R[j]'hlt = x := ⟨_, rfl⟩
        rw [hx] at hrow hdr hfit
        have hfe2 := hfe.out
        rw [hdr] at hfe2
        have hfe3 : firstE R = if checkE x.key (rowS x) = 0 then firstE (R.drop (j + 1)) else checkE x.key (rowS x) := hfe2
        have Hfe := Lib.hid hfe3
        have hfv : (rowS x).val.size ≤ 9223372036854775807 := by have := hfit.2; show x.val.size ≤ _; omega
        clear hfe hfe2 hfe3 hdr hx
        go_wp2_with fail
        refine (check_any x.key (rowS x) _ (by omega) hfv).mono ?_; rintro e w4 ⟨rfl, hb4⟩
        have hbq4 := bel2 (hbq.alloc hbq.size (.cells (nmC ⟨x.key, rowS x⟩) 111)) hb4
        clear hb4 hrow hbq
        obtain ⟨E, hE⟩ : ∃ E, checkE x.key (rowS x) = E := ⟨_, rfl⟩
        rw [hE] at Hfe ⊢
        clear hE
        cases hE0 : (E == 0) with
        | true =>
          obtain rfl : E = 0 := by simpa using hE0
          have hfe4 := Hfe.out
          rw [if_pos rfl] at hfe4
          have Hfe4 := Lib.hid hfe4
          clear hfe4
          go_wp2_with fail
          go_roundw
          case rel => exact ⟨j + 1, by omega, by go_num, Hfe4, hbq4⟩
          case measure => simp [intOf]; omega
        | false =>
          have hEn : E ≠ 0 := by simpa using hE0
          have hEb : (E != 0) = true := by simpa using hE0
          have hfe4 := Hfe.out
          rw [if_neg hEn] at hfe4
          have hld2 := Hld.out
          rw [hfe4, if_pos hEn] at hld2
          have Hld2 := Lib.hid hld2
          have HEn := Lib.hid hEn
          clear hfe4 hld2 hEn
          go_wp2_with fail
          go_ret2
          exact LoadRes.bad Hld2.out HEn.out (bel2 hb2 hbq4)
      · have hfe0 : firstE R = 0 := by rw [hfe.out, List.drop_eq_nil_of_le (by omega)]; rfl
        have hld2 := Hld.out
        rw [if_neg (by rw [hfe0]; simp)] at hld2
        have Hld2 := Lib.hid hld2
        have Hfe0 := Lib.hid hfe0
        have hs3 := SlR.below hs2 hbq
        have hr3 := hr2.below hbq
        have hb3 := bel2 hb2 hbq
        have hA3 : ∀ x ∈ blk A, x < wr.heap.size := fun x hx => by have := hA2 x hx; have := hbq.size; omega
        have hg3 := hr3.lt
        clear hfe0 hld2 hfe hs2 hr2 hb2 hbq hA2 Hld hg01
        have hok1 := (first_ok R).1 Hfe0.out
        have Hok := Lib.hid hok1
        clear hok1 Hfe0
        go_wp2_with fail
        refine (lnew _).mono ?_; rintro e w4 ⟨gm, bm, rfl, hL4, hgm, hbm, hb4⟩
        have hs4 := SlR.below hs3 hb4
        have hr4 := hr3.below hb4
        have hb4' := bel2 hb3 hb4
        have hAb : ∀ x ∈ blk A, x ∉ [bm] := fun x hx => by have := hA3 x hx; simp; omega
        have hgb : g0 ∉ [bm] := by simp; omega
        have hbw : w.heap.size ≤ bm := Nat.le_trans hb3.size hbm
        have hgw : w.heap.size ≤ gm := Nat.le_trans hb3.size hgm
        clear hs3 hr3 hb3 hA3 hb4 hgm hbm hg3
        go_wp2_with fail
        obtain ⟨wp, rfl⟩ : ∃ wp : World, wp = w4 := ⟨_, rfl⟩
        go_loopw [39] (fun i wq => ∃ j : Nat, j ≤ R.length ∧ i = .int .i64 j ∧ LastAt wq gm bm ((R.take j).map rowL) ∧ Keep [bm] wp wq) (fun i _ => R.length - (intOf i).toNat)
        case atStart => exact ⟨0, Nat.zero_le _, rfl, hL4, Keep.refl _ _⟩
        case round =>
          clear hL4
          obtain ⟨j, hj, rfl, hL, hk⟩ := hrel
          have hbk : Below w.heap.size w wr := hb4'.trans (hk.below hb4'.size (by simp; omega))
          by_cases hlt : j < R.length
          · obtain ⟨q, o, rfl, hrow, _⟩ := NmsIn.get (hs4.kept hk hAb) hlt hlt
            have hcx : checkE (R[j]'hlt).key (rowS (R[j]'hlt)) = 0 := Hok.out (rowL R[j]) (List.mem_map_of_mem (List.getElem_mem hlt))
            have htm := take_more hlt
            have hless0 : ∀ m (hm : m + 1 = j), cmpS (R[m]'(by omega)).key (R[j]'hlt).key < 0 → ∀ q ∈ (R.take j).map rowL, cmpS q.1 (R[j]'hlt).key < 0 := fun m hm h => rising_all hL.rows.1 (fun q hq => by
              subst hm
              rw [take_last (by omega)] at hq
              injection hq with hq
              rw [← hq]; exact h)
            have hbad0 : ∀ m (hm : m + 1 = j), bltS (R[m]'(by omega)).key (R[j]'hlt).key = false → loadE l = 4 := fun m hm h => by
              subst hm
              have hri : risingB R = false := by
                cases hr : risingB R with
                | false => rfl
                | true => rw [rising_at hr hlt] at h; cases h
              rw [Hld2.out, if_pos hri]
            have hpre : ∀ m (hm : m + 1 = j), wr.cell? ⟨q, o + m * 35, none⟩ = some (.string (R[m]'(by omega)).key) := fun m hm => by
              obtain ⟨q', o', hqe, _, hkey⟩ := NmsIn.get (hs4.kept hk hAb) (show m < R.length by omega) (show m < R.length by omega)
              injection hqe with hqe
              injection hqe with hq1 hq2
              rw [hq1, hq2]; exact hkey
            obtain ⟨x, hx⟩ : ∃ x, R[j]'hlt = x := ⟨_, rfl⟩
            rw [hx] at hrow hcx htm
            simp only [hx] at hless0 hbad0
            have Hcx := Lib.hid hcx; have Htm := Lib.hid htm; have Hless0 := Lib.hid hless0; have Hbad0 := Lib.hid hbad0; have Hpre := Lib.hid hpre
            have hkW : Keep [bm] wr (wr.alloc (.cells (nmC ⟨x.key, rowS x⟩) 111)) := (Keep.alloc _ _).mono (by simp)
            have hLW := hL.kept (Keep.alloc wr (.cells (nmC ⟨x.key, rowS x⟩) 111)) (by simp) (by simp)
            have hbkW : (wr.alloc (.cells (nmC ⟨x.key, rowS x⟩) 111)).cell? ⟨wr.heap.size, 0, none⟩ = some (.string x.key) := by simp [go_sem]
            have hsetW : rowAt (wr.alloc (.cells (nmC ⟨x.key, rowS x⟩) 111)) wr.heap.size 1 34 = some (settingC (rowS x)) := by simp [go_sem]
            have hbq1 : bm < wr.heap.size := hL.lt.2
            clear hcx htm hless0 hbad0 hpre hx hL
            go_upto_region 16 with fail
            obtain ⟨bq, hbq⟩ : ∃ bq, wr.heap.size = bq := ⟨_, rfl⟩
            rw [hbq] at hbkW hsetW hbq1 ⊢
            clear hrow
            by_cases hj0 : j = 0
            · subst hj0
              have hless : ∀ q ∈ (R.take 0).map rowL, cmpS q.1 x.key < 0 := by simp
              clear hbq
              generalize wr.alloc (.cells (nmC ⟨x.key, rowS x⟩) 111) = W at *
              refine wp_region_lex (Bel W) false (by kernel_rfl) (by kernel_rfl) (by kernel_rfl) (bel_drew W) ?_
              have hne := bel_some W
              have hS := bel_drew W
              have b2 := sub_cell hbkW
              repeat (refine wpLx_loose ?_ ?_; (focus (simp only [chainOp]; done)); intro K hK; go_simp; refine hK _ ?_; clear hK K)
              refine wpLx_nil ?_
              intro hS
              clear b2 hne hS
              have Hless := Lib.hid hless
              clear hless
              have hLZ := hLW.kept (Keep.drew W) (by simp) (by simp)
              have hkZ : Keep [bm] wr W.drew := Keep.trans hkW (Keep.drew W) (by simp)
              have hbkZ : W.drew.cell? ⟨bq, 0, none⟩ = some (.string x.key) := hbkW
              have hsetZ : rowAt W.drew bq 1 34 = some (settingC (rowS x)) := hsetW
              clear hLW hkW hbkW hsetW
              generalize W.drew = Z at *
              obtain ⟨w2, hrun, hL2, hk2⟩ := (hLZ.kept (Keep.drew Z) (by simp) (by simp)).put Hcx.out (fun was e => by rw [getL_less Hless.out] at e; cases e)
              rw [insL_end Hless.out] at hL2
              rw [← Htm.out] at hL2
              have hcZ := hLZ.cell
              have hgb2 : gm ∉ [bm] := by simp; exact hLZ.ne
              have hqn : bq ∉ [bm] := by simp; omega
              go_upto_region 18 with fail
              refine wp_region_lex (Kp [bm] Z) false (by kernel_rfl) (by kernel_rfl) (by kernel_rfl) (kp_drew [bm] Z) ?_
              have hne := kp_some [bm] Z
              have hS := kp_drew [bm] Z
              have b1 := ksub_cell hcZ hgb2
              have b2 := ksub_cell hbkZ hqn
              have b3 := ksub_row hsetZ hqn
              repeat (refine wpLx_loose ?_ ?_; (focus (simp only [chainOp]; done)); intro K hK; go_simp; refine hK _ ?_; clear hK K)
              refine wpLx_chain ?_ ?_ ?_
              focus (exact hS)
              focus (simp only [chainOp]; done)
              intro K hK
              go_simp
              refine step_keep (kp_next hS hk2 (by simp)) (fun hS => ?_)
              refine hK _ _ ?_
              clear hK K
              refine wpLx_nil ?_
              intro hS
              have hkE : Keep [bm] wp w2 := Keep.trans hk (Keep.trans hkZ hS (fun x hx => .inl hx)) (fun x hx => .inl hx)
              clear b1 b2 b3 hne hS hrun hk2 hbkZ hsetZ hcZ hLZ
              go_wp2_with fail
              go_roundw
              case rel => exact ⟨0 + 1, by omega, by go_num, hL2, hkE⟩
              case measure => simp [intOf]; omega
            · obtain ⟨m, hm⟩ : ∃ m, m + 1 = j := ⟨j - 1, by omega⟩
              have hkey1 := Hpre.out m hm
              have hlessm := Hless0.out m hm
              have hbadm := Hbad0.out m hm
              obtain ⟨y, hy⟩ : ∃ y, R[m]'(by omega) = y := ⟨_, rfl⟩
              rw [hy] at hkey1
              simp only [hy] at hlessm hbadm
              have hkeyW : (wr.alloc (.cells (nmC ⟨x.key, rowS x⟩) 111)).cell? ⟨q, o + m * 35, none⟩ = some (.string y.key) := (World.cell?_alloc_lt wr _ _ (World.block_lt_of_cell? wr _ hkey1)).trans hkey1
              have w1' : IntKind.i64.wrap ((j : Int) - 1) = (m : Int) := by rw [show (j : Int) - 1 = m by omega]; exact IntWalk.i64_in _ (by omega)
              have t1 : decide ((0 : Int) < j) = true := by simp; omega
              have t2 : (0 : Int) ≤ (m : Int) := by omega
              have t3 : (m : Int) < R.length := by omega
              have t4 : m < R.length := by omega
              have t5 : 0 < j := by omega
              clear hy hkey1 hj0 hm hbq
              generalize wr.alloc (.cells (nmC ⟨x.key, rowS x⟩) 111) = W at *
              cases hbl : bltS y.key x.key with
              | true =>
                have hbl' : Op.bytesLess y.key.toList x.key.toList = true := hbl
                have hless := hlessm (by rw [bltS_cmp] at hbl; exact of_decide_eq_true hbl)
                clear hlessm hbadm hbl
                refine wp_region_lex (Bel W) false (by kernel_rfl) (by kernel_rfl) (by kernel_rfl) (bel_drew W) ?_
                have hne := bel_some W
                have hS := bel_drew W
                have b1 := sub_cell hkeyW
                have b2 := sub_cell hbkW
                repeat (refine wpLx_loose ?_ ?_; (focus (simp only [chainOp]; done)); intro K hK; go_simp; refine hK _ ?_; clear hK K)
                refine wpLx_nil ?_
                intro hS
                clear b1 b2 hne hS hbl' w1' t1 hkeyW
                have Hless := Lib.hid hless
                clear hless
                have hLZ := hLW.kept (Keep.drew W) (by simp) (by simp)
                have hkZ : Keep [bm] wr W.drew := Keep.trans hkW (Keep.drew W) (by simp)
                have hbkZ : W.drew.cell? ⟨bq, 0, none⟩ = some (.string x.key) := hbkW
                have hsetZ : rowAt W.drew bq 1 34 = some (settingC (rowS x)) := hsetW
                clear hLW hkW hbkW hsetW
                generalize W.drew = Z at *
                obtain ⟨w2, hrun, hL2, hk2⟩ := (hLZ.kept (Keep.drew Z) (by simp) (by simp)).put Hcx.out (fun was e => by rw [getL_less Hless.out] at e; cases e)
                rw [insL_end Hless.out] at hL2
                rw [← Htm.out] at hL2
                have hcZ := hLZ.cell
                have hgb2 : gm ∉ [bm] := by simp; exact hLZ.ne
                have hqn : bq ∉ [bm] := by simp; omega
                go_upto_region 18 with fail
                refine wp_region_lex (Kp [bm] Z) false (by kernel_rfl) (by kernel_rfl) (by kernel_rfl) (kp_drew [bm] Z) ?_
                have hne := kp_some [bm] Z
                have hS := kp_drew [bm] Z
                have b1 := ksub_cell hcZ hgb2
                have b2 := ksub_cell hbkZ hqn
                have b3 := ksub_row hsetZ hqn
                repeat (refine wpLx_loose ?_ ?_; (focus (simp only [chainOp]; done)); intro K hK; go_simp; refine hK _ ?_; clear hK K)
                refine wpLx_chain ?_ ?_ ?_
                focus (exact hS)
                focus (simp only [chainOp]; done)
                intro K hK
                go_simp
                refine step_keep (kp_next hS hk2 (by simp)) (fun hS => ?_)
                refine hK _ _ ?_
                clear hK K
                refine wpLx_nil ?_
                intro hS
                have hkE : Keep [bm] wp w2 := Keep.trans hk (Keep.trans hkZ hS (fun x hx => .inl hx)) (fun x hx => .inl hx)
                clear b1 b2 b3 hne hS hrun hk2 hbkZ hsetZ hcZ hLZ
                go_wp2_with fail
                go_roundw
                case rel => exact ⟨j + 1, by omega, by go_num, hL2, hkE⟩
                case measure => simp [intOf]; omega
              | false =>
                have hbl' : Op.bytesLess y.key.toList x.key.toList = false := hbl
                have hbad := hbadm hbl
                have Hbad := Lib.hid hbad
                clear hlessm hbadm hbl hbad
                refine wp_region_lex (Bel W) false (by kernel_rfl) (by kernel_rfl) (by kernel_rfl) (bel_drew W) ?_
                have hne := bel_some W
                have hS := bel_drew W
                have b1 := sub_cell hkeyW
                have b2 := sub_cell hbkW
                repeat (refine wpLx_loose ?_ ?_; (focus (simp only [chainOp]; done)); intro K hK; go_simp; refine hK _ ?_; clear hK K)
                refine wpLx_nil ?_
                intro hS
                clear b1 b2 hne hbl' w1' t1 hkeyW
                go_wp2_with fail
                go_ret2
                exact LoadRes.bad Hbad.out (by omega) ((hbk.trans (hkW.below hbk.size (by simp; omega))).trans (hS.mono (by have := hkW.size; have := hbk.size; omega)))
          · have htk : R.take j = R := List.take_of_length_le (by omega)
            rw [htk] at hL
            have hri : risingB R = true := (risingB_ok R).2 hL.rows.1
            have hld3 := Hld2.out
            rw [if_neg (by rw [hri]; simp)] at hld3
            have hr5 := hr4.kept hk hgb
            clear htk hri hr4 hk hs4 hb4'
            by_cases hl0 : l1 = []
            · have he0 : endE l1 0 = 0 := by unfold endE; rw [if_pos rfl, if_pos hl0]
              rw [if_pos hl0] at hld3
              have Hld3 := Lib.hid hld3
              have He0 := Lib.hid he0
              clear hld3 he0 hl0
              go_wp2_with fail
              refine (rd_end _ g0 l1 0 hr5).mono ?_; rintro e w5 ⟨rfl, hb5⟩
              rw [He0.out]
              have hL5 := hL.below hb5
              go_wp2_with fail
              go_ret2
              exact ⟨.inr ⟨Hld3.out, gm, bm, rfl, by rw [HR.out]; exact hL5, hgw, hbw⟩, bel2 hbk hb5⟩
            · have he0 : endE l1 0 = 4 := by unfold endE; rw [if_pos rfl, if_neg hl0]
              rw [if_neg hl0] at hld3
              have Hld3 := Lib.hid hld3
              have He0 := Lib.hid he0
              clear hld3 he0 hl0
              go_wp2_with fail
              refine (rd_end _ g0 l1 0 hr5).mono ?_; rintro e w5 ⟨rfl, hb5⟩
              rw [He0.out]
              go_wp2_with fail
              go_ret2
              exact LoadRes.bad Hld3.out (by omega) (bel2 hbk hb5)

end Go.Proofs.Ytlonihfhgfmplaa
