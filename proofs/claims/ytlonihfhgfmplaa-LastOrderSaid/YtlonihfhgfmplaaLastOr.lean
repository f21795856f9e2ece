/- LastOrder: the walk. -/
import Derived.Test.YtlonihfhgfmplaaLoad
import Derived.Test.YtlonihfhgfmplaaLastPl
namespace Go.Proofs.Ytlonihfhgfmplaa
open Go.RowKit

theorem rev_at (R : List Row) (k : Nat) (h : k < R.length) : R.reverse.take (k + 1) = R.reverse.take k ++ [R[R.length - 1 - k]'(by omega)] := by
  rw [List.take_add_one, List.getElem?_eq_getElem (by simpa using h), List.getElem_reverse]; rfl
theorem all_put (R : List Row) (h : R.length ≤ 100000) : ∃ X : List Row, X.map rowL = allL R ∧ loadE (putB (allL R)) = 0 ∧ (readRds (putB (allL R))).rows = X := by
  obtain ⟨X, hX⟩ := rows_of (allL R)
  have hl := allL_length R
  have hXl : X.length = (allL R).length := by rw [← hX, List.length_map]
  have := put_load (X := X) (by rw [hX]; exact allL_ok R) (by omega)
  rw [hX] at this
  exact ⟨X, hX, this⟩

theorem row_cells {W : World} {g : Nat} {x : Row} (h : rowAt W g 0 35 = some (rowC x)) : W.cell? ⟨g, 0, none⟩ = some (.string x.key) ∧ W.cell? ⟨g, 1, none⟩ = some (.string x.val) ∧ W.cell? ⟨g, 2, none⟩ = some (.int .i64 x.n) ∧ rowAt W g 3 32 = some (idC x.id) := by
  refine ⟨?_, ?_, ?_, ?_⟩
  · have := rowAt_cell h (j := 0) (by omega); rwa [rowC_g0] at this
  · have := rowAt_cell h (j := 1) (by omega); rwa [rowC_g1] at this
  · have := rowAt_cell h (j := 2) (by omega); rwa [rowC_g2] at this
  · have := rowAt_sub h (j := 3) (m := 32) (by omega); rwa [rowC_e3] at this

set_option maxRecDepth 100000 in
set_option maxHeartbeats 4000000 in
theorem lastOrder_any (w : World) (A : Option Addr) (n cap : Nat) (R : List Row) (A2 : Option Addr) (n2 cap2 : Nat) (T : List Bool) (at_ : Int) (h : RowsIn w A n R) (hn : n ≤ 9223372036854775807) (hs : ∀ x ∈ R, x.key.size ≤ 9223372036854775807 ∧ x.val.size ≤ 9223372036854775807)
    (hT : SlR w A2 n2 1 (T.map fun b => #[.bool b])) (hn2 : n2 ≤ 9223372036854775807) (ha : 0 ≤ at_ ∧ at_ ≤ 255) :
    Calls Try.prog 7 #[.slice A n cap, .slice A2 n2 cap2, .int .u8 at_] w fun e w' => e = .returned (.bool true) ∧ Below w.heap.size w w' := by
  have hlen := RowsIn.len h
  have hTl : T.length = n2 := by simpa using hT.1
  have c0 := much_any w A n cap R h hn hs
  go_enter Try.func7, Try.ntmps7
  go_wp2_with fail
  refine c0.mono ?_; rintro e w1 ⟨b, rfl, hsm, hw1⟩
  clear c0
  cases b with
  | true =>
    go_wp2_with fail
    refine (awake_any _).mono ?_; rintro e w8 ⟨rfl, hb8⟩
    go_wp2_with fail
    go_ret
    exact ⟨rfl, bel2 hw1 hb8⟩
  | false =>
    have hn40 : n ≤ 40 := by have := (hsm rfl).1; omega
    clear hsm
    have Hlen := Lib.hid hlen
    have HTl := Lib.hid hTl
    clear hlen hn hTl
    go_wp2_with fail
    refine (lnew _).mono ?_; rintro e w2 ⟨g, b, rfl, h2, hg, hb, hw2⟩
    have hw2' := bel2 hw1 hw2
    have hgl := h2.lt.1
    have hbl := h2.lt.2
    have hwb : w.heap.size ≤ b := Nat.le_trans hw1.size hb
    have hwg : w.heap.size ≤ g := Nat.le_trans hw1.size hg
    clear hw2 hw1 hg hb
    go_wp2_with fail
    refine (lnew _).mono ?_; rintro e w3 ⟨g3, b3, rfl, h3, hg3, hb3, hw3⟩
    have hw3' := bel2 hw2' hw3
    have hgl3 := h3.lt.1
    have hbl3 := h3.lt.2
    have h23 := h2.below hw3
    have hwg3 : w.heap.size ≤ g3 := by omega
    have hwb3 : w.heap.size ≤ b3 := by omega
    have hbg : b ≠ g3 ∧ b ≠ b3 ∧ g ≠ b3 := by omega
    clear hw3 hw2' h2 hg3 hb3 hgl hbl
    go_wp2_with fail
    go_loopw [9] (fun i wr => ∃ k : Nat, k ≤ n ∧ i = .int .i64 k ∧ LastAt wr g b (allL (R.take k)) ∧ LastAt wr g3 b3 [] ∧ Below w.heap.size w wr) (fun i _ => n - (intOf i).toNat)
    case atStart => exact ⟨0, Nat.zero_le _, rfl, h23, h3, hw3'⟩
    case round =>
      clear hw3' h23 h3 hgl3 hbl3
      obtain ⟨k, hkn, rfl, hL, hL3, hw3⟩ := hrel
      by_cases hlt : k < n
      · obtain ⟨q, o, rfl, hr, hkey, hval, hnn, hid⟩ := RowsIn.get (SlR.below h hw3) hlt (by rw [Hlen.out]; exact hlt)
        have hsk := hs (R[k]'(by rw [Hlen.out]; exact hlt)) (List.getElem_mem (by rw [Hlen.out]; exact hlt))
        have htk : allL (R.take (k + 1)) = addL (allL (R.take k)) (R[k]'(by rw [Hlen.out]; exact hlt)) := by
          rw [List.take_add_one, List.getElem?_eq_getElem (by rw [Hlen.out]; exact hlt)]
          exact allL_snoc _ _
        obtain ⟨x, hx⟩ : ∃ x, R[k]'(by rw [Hlen.out]; exact hlt) = x := ⟨_, rfl⟩
        rw [hx] at hkey hval hnn hid hsk htk
        have Htk := Lib.hid htk
        clear hx hr htk
        have hq : q < w.heap.size := SlR.old h rfl (by omega)
        have hqb : q ∉ [b] := by simp; omega
        go_upto_region 8 with fail
        have c8 := lset x.key x.val x.n x.id wr.drew g b _ (hL.kept (Keep.drew wr) (by simp) (by simp)) hsk.1 hsk.2
        refine wp_region_lex (Kp [b] wr) false (by kernel_rfl) (by kernel_rfl) (by kernel_rfl) (kp_drew [b] wr) ?_
        have hne := kp_some [b] wr
        have hS := kp_drew [b] wr
        have b1 := ksub_cell hkey hqb
        have b2 := ksub_cell hval hqb
        have b3 := ksub_cell hnn hqb
        have b4 := ksub_row hid hqb
        repeat (refine wpLx_loose ?_ ?_; (focus (simp only [chainOp]; done)); intro K hK; go_simp; refine hK _ ?_; clear hK K)
        refine wpLx_chain ?_ ?_ ?_
        focus (exact hS)
        focus (simp only [chainOp]; done)
        intro K hK
        go_simp
        refine c8.mono ?_
        rintro e w4 ⟨rfl, hL4, hk4⟩
        replace hS := kp_next hS hk4 (by simp)
        refine ⟨_, rfl, hS, hK _ _ ?_⟩
        clear hK K c8
        repeat (refine wpLx_loose ?_ ?_; (focus (simp only [chainOp]; done)); intro K hK; go_simp; refine hK _ ?_; clear hK K)
        refine wpLx_nil ?_
        intro hS
        have hS' : Keep [b] wr w4 := hS
        have hw5 : Below w.heap.size w w4 := hw3.trans (hS'.below (by have := hw3.size; omega) (by simp; omega))
        have hL34 := hL3.kept hS' (by simp; omega) (by simp; omega)
        have hL4' : LastAt w4 g b (allL (R.take (k + 1))) := by rw [Htk.out]; exact hL4
        clear b1 b2 b3 b4 hne hS hS' hk4 hkey hval hid hnn hw3 hL hL3 hL4
        go_wp2_with fail
        go_roundw
        case rel => exact ⟨k + 1, by omega, by go_num, hL4', hL34, hw5⟩
        case measure => simp [intOf]; omega
      · have hkn2 : k = n := by omega
        have hR : R.take k = R := List.take_of_length_le (by rw [Hlen.out]; omega)
        rw [hR] at hL
        have hlt2 := hlt
        have hT3 : SlR wr A2 n2 1 (T.map fun b => #[.bool b]) := hT.kept ⟨hw3.os, hw3.tape, hw3.output, hw3.size, fun k hk _ => hw3.block k hk⟩ (S := []) (by simp)
        clear hR hkn2 hkn hT3
        have h4 : b3 ≠ g ∧ b3 ≠ b ∧ w.heap.size ≤ b3 ∧ w.heap.size ≤ g3 := by omega
        go_wp2_with fail
        obtain ⟨k0, hk0⟩ : ∃ k0, k = k0 := ⟨_, rfl⟩
        subst hk0
        go_loopw [8, 10] (fun bp i wr => ∃ (k g4 b4 : Nat), k ≤ n ∧ i = .int .i64 k ∧ bp = .pointer (some ⟨g4, 0, none⟩) ∧ LastAt wr g b (allL R) ∧ LastAt wr g4 b4 (allL (R.reverse.take k)) ∧ (b4 ≠ g ∧ b4 ≠ b ∧ w.heap.size ≤ b4 ∧ w.heap.size ≤ g4) ∧ Below w.heap.size w wr) (fun _ i _ => n - (intOf i).toNat)
        case atStart => exact ⟨0, g3, b3, Nat.zero_le _, rfl, rfl, hL, hL3, h4, hw3⟩
        case round =>
          clear hw3 hL hL3 h4 hbg hwg3 hwb3 hlt hlt2
          obtain ⟨k, g4, b4, hkn, rfl, rfl, hL, hM, hbb, hw3⟩ := hrel
          by_cases hlt : k < n
          · obtain ⟨m, hm⟩ : ∃ m : Nat, (n : Int) - 1 - (k : Int) = (m : Int) := ⟨n - 1 - k, by omega⟩
            have hmn : m < n := by omega
            have hmk : R.length - 1 - k = m := by rw [Hlen.out]; omega
            obtain ⟨q, o, rfl, hr, _, _, _, _⟩ := RowsIn.get (SlR.below h hw3) hmn (by rw [Hlen.out]; exact hmn)
            have hsk := hs (R[m]'(by rw [Hlen.out]; exact hmn)) (List.getElem_mem (by rw [Hlen.out]; exact hmn))
            have htk : allL (R.reverse.take (k + 1)) = addL (allL (R.reverse.take k)) (R[m]'(by rw [Hlen.out]; exact hmn)) := by
              rw [rev_at R k (by rw [Hlen.out]; exact hlt), allL_snoc]
              simp only [hmk]
            obtain ⟨x, hx⟩ : ∃ x, R[m]'(by rw [Hlen.out]; exact hmn) = x := ⟨_, rfl⟩
            rw [hx] at hr hsk htk
            have Htk := Lib.hid htk
            have hidem := addL_idem hM.rows x
            have Hidem := Lib.hid hidem
            clear hx htk hidem
            have hboxr : rowAt (wr.alloc (.cells (rowC x) 32)) wr.heap.size 0 35 = some (rowC x) := by simp [go_sem]
            have hkA := Keep.alloc wr (.cells (rowC x) 32)
            have hLA := hL.kept hkA (by simp) (by simp)
            have hMA := hM.kept hkA (by simp) (by simp)
            have hwA : Below w.heap.size w (wr.alloc (.cells (rowC x) 32)) := hw3.alloc hw3.size _
            have hb4l := hM.lt.2
            have m0 : (0 : Int) ≤ (m : Int) := by omega
            have m1 : (m : Int) < n := by omega
            go_upto_region 13 with fail
            obtain ⟨bq, hbq⟩ : ∃ bq, wr.heap.size = bq := ⟨_, rfl⟩
            rw [hbq] at hboxr hb4l ⊢
            have hbqA : bq < (wr.alloc (.cells (rowC x) 32)).heap.size := by simp; omega
            have hqb : bq ∉ [b4] := by simp; omega
            clear hm hr hbq hw3 hL hM hkA m0 m1
            generalize wr.alloc (.cells (rowC x) 32) = W at *
            obtain ⟨x0, x1, x2, x3⟩ := row_cells hboxr
            go_wp2_with fail
            refine (lset x.key x.val x.n x.id W g4 b4 _ hMA hsk.1 hsk.2).mono ?_; rintro e w5 ⟨rfl, hM5, hk5⟩
            have hw5 : Below w.heap.size w w5 := hwA.trans (hk5.below hwA.size (by simp; omega))
            have hL5 := hLA.kept hk5 (by simp; omega) (by simp; omega)
            have hbox5 : rowAt w5 bq 0 35 = some (rowC x) := (hk5.row hbqA hqb 0 35).trans hboxr
            replace hM5 : LastAt w5 g4 b4 (addL (allL (R.reverse.take k)) x) := hM5
            have hbq5 : bq < w5.heap.size := by have := hk5.size; omega
            have hT5 : SlR w5 A2 n2 1 (T.map fun b => #[.bool b]) := hT.kept ⟨hw5.os, hw5.tape, hw5.output, hw5.size, fun k hk _ => hw5.block k hk⟩ (S := []) (by simp)
            clear hk5 hboxr hLA hMA hwA hbqA x0 x1 x2 x3
            obtain ⟨tw, htw⟩ : ∃ tw, T.getD k false = tw := ⟨_, rfl⟩
            have hcell : k < n2 → ∃ q2 o2, A2 = some ⟨q2, o2, none⟩ ∧ w5.cell? ⟨q2, o2 + k, none⟩ = some (.bool tw) := fun hk2 => by
              obtain ⟨q2, o2, e, hr2⟩ := hT5.at_ hk2
              refine ⟨q2, o2, e, ?_⟩
              have h1 := rowAt_cell hr2 (j := 0) (by omega)
              simp only [Nat.mul_one, Nat.add_zero, List.getElem_map] at h1
              rw [h1]
              have h2 : T.getD k false = T[k]'(by rw [HTl.out]; exact hk2) := by simp [List.getD, List.getElem?_eq_getElem (show k < T.length by rw [HTl.out]; exact hk2)]
              rw [← htw, h2]; rfl
            clear htw hT5
            cases tw with
            | true =>
              by_cases hk2 : k < n2
              · obtain ⟨q2, o2, rfl, hc2⟩ := hcell hk2
                clear hcell
                obtain ⟨x0, x1, x2, x3⟩ := row_cells hbox5
                go_wp2_with fail
                refine (lset x.key x.val x.n x.id w5 g4 b4 _ hM5 hsk.1 hsk.2).mono ?_; rintro e w6 ⟨rfl, hM6, hk6⟩
                have hw6 : Below w.heap.size w w6 := hw5.trans (hk6.below hw5.size (by simp; omega))
                have hL6 := hL5.kept hk6 (by simp; omega) (by simp; omega)
                replace hM6 : LastAt w6 g4 b4 (addL (addL (allL (R.reverse.take k)) x) x) := hM6
                rw [Hidem.out] at hM6
                clear hw5 hL5 hM5 hk6 hc2 hbox5 x0 x1 x2 x3
                cases hat : ((k : Int) == at_) with
                | false =>
                  go_wp2_with fail
                  go_roundw
                  case rel => exact ⟨k + 1, g4, b4, by omega, by go_num, rfl, hL6, by rw [Htk.out]; exact hM6, hbb, hw6⟩
                  case measure => simp [intOf]; omega
                | true =>
                  have hlO : (addL (allL (R.reverse.take k)) x).length ≤ 1000000 := by
                    rw [← Htk.out]
                    have := allL_length (R.reverse.take (k + 1))
                    have := List.length_take_le (k + 1) R.reverse
                    omega
                  have hap := all_put (R.reverse.take (k + 1)) (by have := List.length_take_le (k + 1) R.reverse; omega)
                  rw [Htk.out] at hap
                  have hbd : (putB (addL (allL (R.reverse.take k)) x)).length ≤ 1000000 := by
                    have h1 := rows_length _ hM6.rows.2
                    have h2 : (addL (allL (R.reverse.take k)) x).length ≤ 40 := by
                      rw [← Htk.out]
                      have := allL_length (R.reverse.take (k + 1))
                      have := List.length_take_le (k + 1) R.reverse
                      omega
                    unfold putB
                    rw [List.length_append, beL_length]
                    omega
                  have Hap := Lib.hid hap
                  clear hap
                  go_wp2_with fail
                  refine (lput _ _ _ _ hM6 hlO).mono ?_; rintro e w7 ⟨rfl, hb7⟩
                  have hL7 := hL6.below hb7
                  have hw7 := bel2 hw6 hb7
                  have hbbk : b < w7.heap.size ∧ g < w7.heap.size := ⟨hL7.lt.2, hL7.lt.1⟩
                  have c9 : Calls Try.prog 24 #[.string ⟨(putB (addL (allL (R.reverse.take k)) x)).toArray⟩] w7 fun e w' => ∃ g5 b5, e = .returned (.tuple #[.pointer (some ⟨g5, 0, none⟩), .int .i64 0]) ∧ LastAt w' g5 b5 (addL (allL (R.reverse.take k)) x) ∧ (b5 ≠ g ∧ b5 ≠ b ∧ w.heap.size ≤ b5 ∧ w.heap.size ≤ g5) ∧ Below w7.heap.size w7 w' :=
                    (lload w7 ⟨(putB (addL (allL (R.reverse.take k)) x)).toArray⟩ (Nat.le_trans hbd (by omega))).mono fun e w' h => by
                      obtain ⟨h, hb⟩ := h
                      obtain ⟨X, hX, h0, hr⟩ := Hap.out
                      rcases h with ⟨h, _⟩ | ⟨_, g5, b5, he, hL5, hg5, hb5⟩
                      · exact absurd h0 h
                      · refine ⟨g5, b5, he, ?_, ⟨by omega, by omega, by have := hw7.size; omega, by have := hw7.size; omega⟩, hb⟩
                        have e1 : (readRds (⟨(putB (addL (allL (R.reverse.take k)) x)).toArray⟩ : ByteArray).data.toList).rows = X := hr
                        rw [e1, hX] at hL5
                        exact hL5
                  clear hM6 hL6 hb7 hw6 hbd hlO hbbk
                  go_wp2_with fail
                  refine c9.mono ?_; rintro e w8 ⟨g5, b5, rfl, hM8, hbb8, hb8⟩
                  have hL8 := hL7.below hb8
                  have hw8 := bel2 hw7 hb8
                  clear c9 hb8 hL7 hw7 hbb
                  go_wp2_with fail
                  go_roundw
                  case rel => exact ⟨k + 1, g5, b5, by omega, by go_num, rfl, hL8, by rw [Htk.out]; exact hM8, hbb8, hw8⟩
                  case measure => simp [intOf]; omega
              · clear hcell
                have hM6 := hM5; have hL6 := hL5; have hw6 := hw5
                clear hw5 hL5 hM5 hbox5
                go_upto_region 16 with fail
                cases hat : ((k : Int) == at_) with
                | false =>
                  go_wp2_with fail
                  go_roundw
                  case rel => exact ⟨k + 1, g4, b4, by omega, by go_num, rfl, hL6, by rw [Htk.out]; exact hM6, hbb, hw6⟩
                  case measure => simp [intOf]; omega
                | true =>
                  have hlO : (addL (allL (R.reverse.take k)) x).length ≤ 1000000 := by
                    rw [← Htk.out]
                    have := allL_length (R.reverse.take (k + 1))
                    have := List.length_take_le (k + 1) R.reverse
                    omega
                  have hap := all_put (R.reverse.take (k + 1)) (by have := List.length_take_le (k + 1) R.reverse; omega)
                  rw [Htk.out] at hap
                  have hbd : (putB (addL (allL (R.reverse.take k)) x)).length ≤ 1000000 := by
                    have h1 := rows_length _ hM6.rows.2
                    have h2 : (addL (allL (R.reverse.take k)) x).length ≤ 40 := by
                      rw [← Htk.out]
                      have := allL_length (R.reverse.take (k + 1))
                      have := List.length_take_le (k + 1) R.reverse
                      omega
                    unfold putB
                    rw [List.length_append, beL_length]
                    omega
                  have Hap := Lib.hid hap
                  clear hap
                  go_wp2_with fail
                  refine (lput _ _ _ _ hM6 hlO).mono ?_; rintro e w7 ⟨rfl, hb7⟩
                  have hL7 := hL6.below hb7
                  have hw7 := bel2 hw6 hb7
                  have hbbk : b < w7.heap.size ∧ g < w7.heap.size := ⟨hL7.lt.2, hL7.lt.1⟩
                  have c9 : Calls Try.prog 24 #[.string ⟨(putB (addL (allL (R.reverse.take k)) x)).toArray⟩] w7 fun e w' => ∃ g5 b5, e = .returned (.tuple #[.pointer (some ⟨g5, 0, none⟩), .int .i64 0]) ∧ LastAt w' g5 b5 (addL (allL (R.reverse.take k)) x) ∧ (b5 ≠ g ∧ b5 ≠ b ∧ w.heap.size ≤ b5 ∧ w.heap.size ≤ g5) ∧ Below w7.heap.size w7 w' :=
                    (lload w7 ⟨(putB (addL (allL (R.reverse.take k)) x)).toArray⟩ (Nat.le_trans hbd (by omega))).mono fun e w' h => by
                      obtain ⟨h, hb⟩ := h
                      obtain ⟨X, hX, h0, hr⟩ := Hap.out
                      rcases h with ⟨h, _⟩ | ⟨_, g5, b5, he, hL5, hg5, hb5⟩
                      · exact absurd h0 h
                      · refine ⟨g5, b5, he, ?_, ⟨by omega, by omega, by have := hw7.size; omega, by have := hw7.size; omega⟩, hb⟩
                        have e1 : (readRds (⟨(putB (addL (allL (R.reverse.take k)) x)).toArray⟩ : ByteArray).data.toList).rows = X := hr
                        rw [e1, hX] at hL5
                        exact hL5
                  clear hM6 hL6 hb7 hw6 hbd hlO hbbk
                  go_wp2_with fail
                  refine c9.mono ?_; rintro e w8 ⟨g5, b5, rfl, hM8, hbb8, hb8⟩
                  have hL8 := hL7.below hb8
                  have hw8 := bel2 hw7 hb8
                  clear c9 hb8 hL7 hw7 hbb
                  go_wp2_with fail
                  go_roundw
                  case rel => exact ⟨k + 1, g5, b5, by omega, by go_num, rfl, hL8, by rw [Htk.out]; exact hM8, hbb8, hw8⟩
                  case measure => simp [intOf]; omega
            | false =>
              by_cases hk2 : k < n2
              · obtain ⟨q2, o2, rfl, hc2⟩ := hcell hk2
                clear hcell
                have hM6 := hM5; have hL6 := hL5; have hw6 := hw5
                clear hw5 hL5 hM5 hbox5
                go_upto_region 16 with fail
                cases hat : ((k : Int) == at_) with
                | false =>
                  go_wp2_with fail
                  go_roundw
                  case rel => exact ⟨k + 1, g4, b4, by omega, by go_num, rfl, hL6, by rw [Htk.out]; exact hM6, hbb, hw6⟩
                  case measure => simp [intOf]; omega
                | true =>
                  have hlO : (addL (allL (R.reverse.take k)) x).length ≤ 1000000 := by
                    rw [← Htk.out]
                    have := allL_length (R.reverse.take (k + 1))
                    have := List.length_take_le (k + 1) R.reverse
                    omega
                  have hap := all_put (R.reverse.take (k + 1)) (by have := List.length_take_le (k + 1) R.reverse; omega)
                  rw [Htk.out] at hap
                  have hbd : (putB (addL (allL (R.reverse.take k)) x)).length ≤ 1000000 := by
                    have h1 := rows_length _ hM6.rows.2
                    have h2 : (addL (allL (R.reverse.take k)) x).length ≤ 40 := by
                      rw [← Htk.out]
                      have := allL_length (R.reverse.take (k + 1))
                      have := List.length_take_le (k + 1) R.reverse
                      omega
                    unfold putB
                    rw [List.length_append, beL_length]
                    omega
                  have Hap := Lib.hid hap
                  clear hap
                  go_wp2_with fail
                  refine (lput _ _ _ _ hM6 hlO).mono ?_; rintro e w7 ⟨rfl, hb7⟩
                  have hL7 := hL6.below hb7
                  have hw7 := bel2 hw6 hb7
                  have hbbk : b < w7.heap.size ∧ g < w7.heap.size := ⟨hL7.lt.2, hL7.lt.1⟩
                  have c9 : Calls Try.prog 24 #[.string ⟨(putB (addL (allL (R.reverse.take k)) x)).toArray⟩] w7 fun e w' => ∃ g5 b5, e = .returned (.tuple #[.pointer (some ⟨g5, 0, none⟩), .int .i64 0]) ∧ LastAt w' g5 b5 (addL (allL (R.reverse.take k)) x) ∧ (b5 ≠ g ∧ b5 ≠ b ∧ w.heap.size ≤ b5 ∧ w.heap.size ≤ g5) ∧ Below w7.heap.size w7 w' :=
                    (lload w7 ⟨(putB (addL (allL (R.reverse.take k)) x)).toArray⟩ (Nat.le_trans hbd (by omega))).mono fun e w' h => by
                      obtain ⟨h, hb⟩ := h
                      obtain ⟨X, hX, h0, hr⟩ := Hap.out
                      rcases h with ⟨h, _⟩ | ⟨_, g5, b5, he, hL5, hg5, hb5⟩
                      · exact absurd h0 h
                      · refine ⟨g5, b5, he, ?_, ⟨by omega, by omega, by have := hw7.size; omega, by have := hw7.size; omega⟩, hb⟩
                        have e1 : (readRds (⟨(putB (addL (allL (R.reverse.take k)) x)).toArray⟩ : ByteArray).data.toList).rows = X := hr
                        rw [e1, hX] at hL5
                        exact hL5
                  clear hM6 hL6 hb7 hw6 hbd hlO hbbk
                  go_wp2_with fail
                  refine c9.mono ?_; rintro e w8 ⟨g5, b5, rfl, hM8, hbb8, hb8⟩
                  have hL8 := hL7.below hb8
                  have hw8 := bel2 hw7 hb8
                  clear c9 hb8 hL7 hw7 hbb
                  go_wp2_with fail
                  go_roundw
                  case rel => exact ⟨k + 1, g5, b5, by omega, by go_num, rfl, hL8, by rw [Htk.out]; exact hM8, hbb8, hw8⟩
                  case measure => simp [intOf]; omega
              · clear hcell
                have hM6 := hM5; have hL6 := hL5; have hw6 := hw5
                clear hw5 hL5 hM5 hbox5
                go_upto_region 16 with fail
                cases hat : ((k : Int) == at_) with
                | false =>
                  go_wp2_with fail
                  go_roundw
                  case rel => exact ⟨k + 1, g4, b4, by omega, by go_num, rfl, hL6, by rw [Htk.out]; exact hM6, hbb, hw6⟩
                  case measure => simp [intOf]; omega
                | true =>
                  have hlO : (addL (allL (R.reverse.take k)) x).length ≤ 1000000 := by
                    rw [← Htk.out]
                    have := allL_length (R.reverse.take (k + 1))
                    have := List.length_take_le (k + 1) R.reverse
                    omega
                  have hap := all_put (R.reverse.take (k + 1)) (by have := List.length_take_le (k + 1) R.reverse; omega)
                  rw [Htk.out] at hap
                  have hbd : (putB (addL (allL (R.reverse.take k)) x)).length ≤ 1000000 := by
                    have h1 := rows_length _ hM6.rows.2
                    have h2 : (addL (allL (R.reverse.take k)) x).length ≤ 40 := by
                      rw [← Htk.out]
                      have := allL_length (R.reverse.take (k + 1))
                      have := List.length_take_le (k + 1) R.reverse
                      omega
                    unfold putB
                    rw [List.length_append, beL_length]
                    omega
                  have Hap := Lib.hid hap
                  clear hap
                  go_wp2_with fail
                  refine (lput _ _ _ _ hM6 hlO).mono ?_; rintro e w7 ⟨rfl, hb7⟩
                  have hL7 := hL6.below hb7
                  have hw7 := bel2 hw6 hb7
                  have hbbk : b < w7.heap.size ∧ g < w7.heap.size := ⟨hL7.lt.2, hL7.lt.1⟩
                  have c9 : Calls Try.prog 24 #[.string ⟨(putB (addL (allL (R.reverse.take k)) x)).toArray⟩] w7 fun e w' => ∃ g5 b5, e = .returned (.tuple #[.pointer (some ⟨g5, 0, none⟩), .int .i64 0]) ∧ LastAt w' g5 b5 (addL (allL (R.reverse.take k)) x) ∧ (b5 ≠ g ∧ b5 ≠ b ∧ w.heap.size ≤ b5 ∧ w.heap.size ≤ g5) ∧ Below w7.heap.size w7 w' :=
                    (lload w7 ⟨(putB (addL (allL (R.reverse.take k)) x)).toArray⟩ (Nat.le_trans hbd (by omega))).mono fun e w' h => by
                      obtain ⟨h, hb⟩ := h
                      obtain ⟨X, hX, h0, hr⟩ := Hap.out
                      rcases h with ⟨h, _⟩ | ⟨_, g5, b5, he, hL5, hg5, hb5⟩
                      · exact absurd h0 h
                      · refine ⟨g5, b5, he, ?_, ⟨by omega, by omega, by have := hw7.size; omega, by have := hw7.size; omega⟩, hb⟩
                        have e1 : (readRds (⟨(putB (addL (allL (R.reverse.take k)) x)).toArray⟩ : ByteArray).data.toList).rows = X := hr
                        rw [e1, hX] at hL5
                        exact hL5
                  clear hM6 hL6 hb7 hw6 hbd hlO hbbk
                  go_wp2_with fail
                  refine c9.mono ?_; rintro e w8 ⟨g5, b5, rfl, hM8, hbb8, hb8⟩
                  have hL8 := hL7.below hb8
                  have hw8 := bel2 hw7 hb8
                  clear c9 hb8 hL7 hw7 hbb
                  go_wp2_with fail
                  go_roundw
                  case rel => exact ⟨k + 1, g5, b5, by omega, by go_num, rfl, hL8, by rw [Htk.out]; exact hM8, hbb8, hw8⟩
                  case measure => simp [intOf]; omega
          · have hR : R.reverse.take k = R.reverse := List.take_of_length_le (by rw [List.length_reverse, Hlen.out]; omega)
            rw [hR, allL_rev] at hM
            have hlO : (allL R).length ≤ 1000000 := by have := allL_length R; have := Hlen.out; omega
            clear hR hkn hbb
            go_wp2_with fail
            refine (lput _ _ _ _ hL hlO).mono ?_; rintro e w5 ⟨rfl, hb5⟩
            have hL5 := hL.below hb5
            have hM5 := hM.below hb5
            have hw5 := bel2 hw3 hb5
            clear hL hM hw3 hb5
            obtain ⟨s5, hs5⟩ : ∃ s5 : ByteArray, (⟨(putB (allL R)).toArray⟩ : ByteArray) = s5 := ⟨_, rfl⟩
            rw [hs5]
            have Hs5 := Lib.hid hs5
            clear hs5
            go_wp2_with fail
            refine (lput _ _ _ _ hM5 hlO).mono ?_; rintro e w6 ⟨rfl, hb6⟩
            rw [Hs5.out]
            have hL6 := hL5.below hb6
            have hM6 := hM5.below hb6
            have hw6 := bel2 hw5 hb6
            clear hL5 hM5 hw5 hb6
            go_wp2_with fail
            refine (llist _ _ _ _ hL6 hlO).mono ?_; rintro e w7 ⟨A7, cap7, rfl, hown7, hb7⟩
            have hM7 := hM6.below hb7
            have hw7 := bel2 hw6 hb7
            go_wp2_with fail
            refine (llist _ _ _ _ hM7 hlO).mono ?_; rintro e w8 ⟨A8, cap8, rfl, hown8, hb8⟩
            have hw8 := bel2 hw7 hb8
            have e8 : listC (allL R) = ((allL R).map pairOf).map pairC := by unfold listC; rw [List.map_map]; rfl
            have hp7 : PairsIn w8 A7 (allL R).length ((allL R).map pairOf) := by have := (hown7.below hb8).slr; rwa [e8] at this
            have hp8 : PairsIn w8 A8 (allL R).length ((allL R).map pairOf) := by have := hown8.slr; rwa [e8] at this
            clear hL6 hM6 hM7 hw6 hw7 hown7 hown8 hb7 hb8 e8
            go_wp2_with fail
            refine (rpairs w8 _ _ _ _ _ _ _ _ hp7 hp8 (by omega) (by omega)).mono ?_; rintro e w10 ⟨rfl, hb10⟩
            have hdt : decide ((allL R).map pairOf = (allL R).map pairOf) = true := decide_eq_true rfl
            rw [hdt]
            have hw10 := bel2 hw8 hb10
            clear hdt
            go_wp2_with fail
            refine (awake_any _).mono ?_; rintro e w11 ⟨rfl, hb11⟩
            go_wp2_with fail
            go_ret
            exact ⟨rfl, bel2 hw10 hb11⟩

end Go.Proofs.Ytlonihfhgfmplaa
