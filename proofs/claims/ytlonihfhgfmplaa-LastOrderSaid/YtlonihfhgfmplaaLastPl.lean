/- LastPlays: whatever is set: the walk and its plain law. -/
import Derived.Test.YtlonihfhgfmplaaRPut
import Derived.Test.YtlonihfhgfmplaaLastV
namespace Go.Proofs.Ytlonihfhgfmplaa
open Go.RowKit

def lastP (l : List Pair) (key : ByteArray) (o : Option ByteArray) : Option ByteArray := l.foldl (fun o p => if p.key = key then some p.val else o) o
theorem lastP_snoc (l : List Pair) (p : Pair) (key : ByteArray) (o : Option ByteArray) : lastP (l ++ [p]) key o = if p.key = key then some p.val else lastP l key o := by simp [lastP]
theorem lastP_get : ∀ (O : List Row) (key : ByteArray) (o : Option ByteArray), Rising (O.map rowL) → lastP (O.map pairR) key o = match getL (O.map rowL) key with | some s => some s.val | none => o
  | [], _, _, _ => rfl
  | y :: O, key, o, h => by
    have ih := lastP_get O key
    have e : lastP ((y :: O).map pairR) key o = lastP (O.map pairR) key (if y.key = key then some y.val else o) := rfl
    rw [e, ih _ h.2]
    simp only [List.map_cons, getL_cons]
    have e1 : (rowL y).1 = y.key := rfl
    rw [e1]
    by_cases hk : y.key = key
    · have hn : getL (O.map rowL) key = none := getL_lt (fun z hz => by have := h.1 z hz; rwa [e1, hk] at this)
      rw [if_pos hk, if_pos hk, hn]; rfl
    · rw [if_neg hk, if_neg hk]

def okR (X : List Row) : Prop := ∀ x ∈ X, checkE x.key (rowS x) = 0
theorem okR_snoc {X : List Row} {x : Row} (h : okR X) (hx : checkE x.key (rowS x) = 0) : okR (X ++ [x]) := fun y hy => by
  rcases List.mem_append.1 hy with h' | h'
  · exact h y h'
  · simp at h'; rw [h']; exact hx

set_option maxRecDepth 100000 in
set_option maxHeartbeats 4000000 in
theorem lastPlays_any (w : World) (A : Option Addr) (n cap : Nat) (R : List Row) (key : ByteArray) (h : RowsIn w A n R) (hn : n ≤ 9223372036854775807) (hs : ∀ x ∈ R, x.key.size ≤ 9223372036854775807 ∧ x.val.size ≤ 9223372036854775807)
    (hk : key.size ≤ 9223372036854775807) :
    Calls Try.prog 4 #[.slice A n cap, .string key] w fun e w' => e = .returned (.bool true) ∧ Below w.heap.size w w' := by
  have hlen := RowsIn.len h
  have c0 := much_any w A n cap R h hn hs
  go_enter Try.func4, Try.ntmps4
  go_wp2_with fail
  refine c0.mono ?_; rintro e w1 ⟨b, rfl, hsm, hw1⟩
  clear c0
  cases b with
  | true =>
    go_wp2_with fail
    refine (awake_any _).mono ?_; rintro e w8 ⟨rfl, hb8⟩
    go_wp2_with fail
    go_ret
    exact ⟨rfl, bel2 hw1 hb8⟩
  | false =>
    have hn40 : n ≤ 40 := by have := (hsm rfl).1; omega
    clear hsm
    have Hlen := Lib.hid hlen
    clear hlen hn
    go_wp2_with fail
    refine (lnew _).mono ?_; rintro e w2 ⟨g, b, rfl, h2, hg, hb, hw2⟩
    have hw2' := bel2 hw1 hw2
    have hgl := h2.lt.1
    have hbl := h2.lt.2
    have hwb : w.heap.size ≤ b := Nat.le_trans hw1.size hb
    clear hw2 hw1
    go_wp2_with fail
    go_loopw [6, 7] (fun v i wr => ∃ (k : Nat) (X : List Row) (A1 : Option Addr) (cap1 : Nat), k ≤ n ∧ i = .int .i64 k ∧ v = .slice A1 X.length cap1 ∧ X.length ≤ k ∧ Own wr w2.heap.size 32 35 A1 X.length cap1 (X.map rowC) ∧ LastAt wr g b ((latestR X).map rowL) ∧ Hid (okR X) ∧ Below w.heap.size w wr ∧ w2.heap.size ≤ wr.heap.size) (fun _ i _ => n - (intOf i).toNat)
    case atStart => exact ⟨0, [], none, 0, Nat.zero_le _, rfl, rfl, Nat.zero_le _, Own.nil _ _ _ _, h2, (show okR [] by intro x hx; cases hx), hw2', Nat.le_refl _⟩
    case round =>
      clear hw2' h2
      obtain ⟨k, X, A1, cap1, hkn, rfl, rfl, hXk, hown, hL, hok, hw3, hsz3⟩ := hrel
      have hXl := latestR_length X
      by_cases hlt : k < n
      · obtain ⟨q, o, rfl, hr, hkey, hval, hnn, hid⟩ := RowsIn.get (SlR.below h hw3) hlt (by rw [Hlen.out]; exact hlt)
        have hsk := hs (R[k]'(by rw [Hlen.out]; exact hlt)) (List.getElem_mem (by rw [Hlen.out]; exact hlt))
        obtain ⟨x, hx⟩ : ∃ x, R[k]'(by rw [Hlen.out]; exact hlt) = x := ⟨_, rfl⟩
        rw [hx] at hkey hval hnn hid hsk hr
        clear hx
        have hq : q < w.heap.size := SlR.old h rfl (by omega)
        have hqb : q ∉ [b] := by simp; omega
        go_wp2_with fail
        refine (rcheck x _ hsk.1 hsk.2).mono ?_; rintro e w4 ⟨rfl, hb4⟩
        have hkey4 := (hb4.cell (p := ⟨q, o + k * 35, none⟩) (World.block_lt_of_cell? wr _ hkey)).trans hkey
        have hval4 := (hb4.cell (p := ⟨q, o + k * 35 + 1, none⟩) (World.block_lt_of_cell? wr _ hval)).trans hval
        have hnn4 := (hb4.cell (p := ⟨q, o + k * 35 + 2, none⟩) (World.block_lt_of_cell? wr _ hnn)).trans hnn
        have hid4 : rowAt w4 q (o + k * 35 + 3) 32 = some (idC x.id) := (rowAt_of_block (hb4.block q (rowAt_lt hid)) _ _).trans hid
        have hr4 : rowAt w4 q (o + k * 35) 35 = some (rowC x) := (rowAt_of_block (hb4.block q (rowAt_lt hr)) _ _).trans hr
        have hL4 := hL.below hb4
        have hown4 := hown.below hb4
        have hw4 := bel2 hw3 hb4
        have hsz4 : w2.heap.size ≤ w4.heap.size := by have := hb4.size; omega
        clear hkey hval hnn hid hr hL hown hw3 hsz3 hb4
        go_upto_region 9 with fail
        have c8 := lset x.key x.val x.n x.id w4.drew g b _ (hL4.kept (Keep.drew w4) (by simp) (by simp)) hsk.1 hsk.2
        refine wp_region_lex (Kp [b] w4) false (by kernel_rfl) (by kernel_rfl) (by kernel_rfl) (kp_drew [b] w4) ?_
        have hne := kp_some [b] w4
        have hS := kp_drew [b] w4
        have b1 := ksub_cell hkey4 hqb
        have b2 := ksub_cell hval4 hqb
        have b3 := ksub_cell hnn4 hqb
        have b4 := ksub_row hid4 hqb
        repeat (refine wpLx_loose ?_ ?_; (focus (simp only [chainOp]; done)); intro K hK; go_simp; refine hK _ ?_; clear hK K)
        refine wpLx_chain ?_ ?_ ?_
        focus (exact hS)
        focus (simp only [chainOp]; done)
        intro K hK
        go_simp
        refine c8.mono ?_
        rintro e w5 ⟨rfl, hL5, hk5⟩
        replace hS := kp_next hS hk5 (by simp)
        refine ⟨_, rfl, hS, hK _ _ ?_⟩
        clear hK K c8
        repeat (refine wpLx_loose ?_ ?_; (focus (simp only [chainOp]; done)); intro K hK; go_simp; refine hK _ ?_; clear hK K)
        refine wpLx_nil ?_
        intro hS
        have hS' : Keep [b] w4 w5 := hS
        have hw5 : Below w.heap.size w w5 := hw4.trans (hS'.below hw4.size (by simp; omega))
        have hr5 : rowAt w5 q (o + k * 35) 35 = some (rowC x) := (hS'.row (rowAt_lt hr4) hqb _ _).trans hr4
        have hown5 := hown4.kept hS' (by intro y hy; have := (hown4.at_base hy).1; simp; omega)
        have hsz5 : w2.heap.size ≤ w5.heap.size := by have := hS'.size; omega
        have htk : X.length + 1 ≤ k + 1 := by omega
        clear b1 b2 b3 b4 hne hS hS' hk5 hkey4 hval4 hnn4 hid4 hr4 hw4 hL4 hown4 hsz4
        cases hcb : (checkE x.key ⟨x.val, x.n, x.id⟩ == 0) with
        | true =>
          rw [beq_iff_eq] at hcb
          have hLe : setL ((latestR X).map rowL) x.key ⟨x.val, x.n, x.id⟩ = (latestR (X ++ [x])).map rowL := by
            unfold setL
            rw [if_pos hcb, latestR_snoc, insR_map]; rfl
          rw [hLe] at hL5
          have hok5 := okR_snoc hok.out (x := x) hcb
          have Hok5 := Lib.hid hok5
          have hce : checkE x.key (rowS x) = 0 := hcb
          rw [hce, hcb]
          clear hLe hcb hce hok hok5
          have hbx : Below w5.heap.size w5 (w5.alloc (.cells (rowC x) 32)) := (Below.refl _ _).alloc (Nat.le_refl _) _
          have hown6 := hown5.below hbx
          have hrow6 : rowAt (w5.alloc (.cells (rowC x) 32)) w5.heap.size 0 35 = some (rowC x) := by simp [go_sem]
          go_upto_region 13 with (at_builtin; refine L_append einfoRow rfl hown6 rfl hrow6 (rowC_one _) (by omega) (by omega) (by simp; omega) ?_; intro A7 cap7 w7 hown7 hk7 hsub7)
          have hw7 : Below w.heap.size w w7 := (hw5.trans (hbx.mono hw5.size)).trans (hk7.below (by have := hw5.size; simp; omega) (fun y hy => by have := (hown5.at_base hy).1; omega))
          have hsz7 : w2.heap.size ≤ w7.heap.size := by have := hk7.size; simp at this; omega
          have hL7 := (hL5.below hbx).kept hk7 (fun hy => by have := (hown5.at_base hy).1; omega) (fun hy => by have := (hown5.at_base hy).1; omega)
          rw [show X.map rowC ++ [rowC x] = (X ++ [x]).map rowC by simp] at hown7
          obtain ⟨X', hX'⟩ : ∃ X', X ++ [x] = X' := ⟨_, rfl⟩
          have hXl' : X.length + 1 = X'.length := by rw [← hX']; simp
          rw [hX', hXl'] at hown7
          rw [hX'] at hL7 Hok5
          have hXk' : X'.length ≤ k + 1 := by omega
          rw [hXl']
          clear hown5 hown6 hrow6 hk7 hsub7 hbx hL5 hX' hXl' hXl hXk htk hw5 hsz5
          have hXl := latestR_length X'
          have hO : ((latestR X').map rowL).length ≤ 1000000 := by rw [List.length_map]; omega
          go_wp2_with fail
          refine (llist _ _ _ _ hL7 hO).mono ?_; rintro e w8 ⟨A8, cap8, rfl, hown8, hb8⟩
          rw [List.length_map] at hown8 ⊢
          have hs8 : RowsIn w8 A7 (X').length X' := (hown7.below hb8).slr
          go_wp2_with fail
          refine (rlist w8 A7 (X').length cap7 X' hs8 (by omega)).mono ?_; rintro e w9 ⟨A9, cap9, rfl, hown9, hb9⟩
          have hown9' := hown9.slr
          rw [List.length_map] at hown9' ⊢
          have hp8 : PairsIn w9 A8 (latestR X').length ((latestR X').map pairR) := by
            have := (hown8.below hb9).slr
            have e : listC ((latestR X').map rowL) = ((latestR X').map pairR).map pairC := by unfold listC; rw [List.map_map, List.map_map]; rfl
            rwa [e] at this
          have hp9 : PairsIn w9 A9 (latestR X').length ((latestR X').map pairR) := hown9'
          go_wp2_with fail
          refine (rpairs w9 _ _ _ _ _ _ _ _ hp8 hp9 (by omega) (by omega)).mono ?_; rintro e w10 ⟨rfl, hb10⟩
          have hdt : decide ((latestR X').map pairR = (latestR X').map pairR) = true := decide_eq_true rfl
          rw [hdt]
          clear hdt
          have hb70 : Below w7.heap.size w7 w10 := bel2 (bel2 hb8 hb9) hb10
          have hw10 := bel2 hw7 hb70
          have hL10 := hL7.below hb70
          have hown10 := hown7.below hb70
          have hsz10 : w2.heap.size ≤ w10.heap.size := by have := hb70.size; omega
          clear hb8 hb9 hb10 hb70 hp8 hp9 hs8 hown8 hown9 hown9' hO
          go_wp2_with fail
          go_roundw
          case rel => exact ⟨k + 1, X', A7, cap7, by omega, by go_num, rfl, hXk', hown10, hL10, Hok5, hw10, hsz10⟩
          case measure => simp [intOf]; omega
        | false =>
          have hcn : checkE x.key ⟨x.val, x.n, x.id⟩ ≠ 0 := by intro e; rw [e] at hcb; cases hcb
          have hLe : setL ((latestR X).map rowL) x.key ⟨x.val, x.n, x.id⟩ = (latestR X).map rowL := if_neg hcn
          rw [hLe] at hL5
          have hce : checkE x.key ⟨x.val, x.n, x.id⟩ = checkE x.key (rowS x) := rfl
          rw [hce] at hcb ⊢
          obtain ⟨E, hE⟩ : ∃ E, checkE x.key (rowS x) = E := ⟨_, rfl⟩
          rw [hE] at hcb ⊢
          clear hcn hLe hce hE
          obtain ⟨w7, hw7e⟩ : ∃ w7, w7 = w5 := ⟨_, rfl⟩
          rw [← hw7e] at hL5 hown5 hw5 hsz5 hr5 ⊢
          clear hw7e
          have hL7 := hL5; have hown7 := hown5; have hw7 := hw5; have hsz7 := hsz5
          clear hL5 hown5 hw5 hsz5 hr5
          have hO : ((latestR X).map rowL).length ≤ 1000000 := by rw [List.length_map]; omega
          go_wp2_with fail
          refine (llist _ _ _ _ hL7 hO).mono ?_; rintro e w8 ⟨A8, cap8, rfl, hown8, hb8⟩
          rw [List.length_map] at hown8 ⊢
          have hs8 : RowsIn w8 A1 (X).length X := (hown7.below hb8).slr
          go_wp2_with fail
          refine (rlist w8 A1 (X).length cap1 X hs8 (by omega)).mono ?_; rintro e w9 ⟨A9, cap9, rfl, hown9, hb9⟩
          have hown9' := hown9.slr
          rw [List.length_map] at hown9' ⊢
          have hp8 : PairsIn w9 A8 (latestR X).length ((latestR X).map pairR) := by
            have := (hown8.below hb9).slr
            have e : listC ((latestR X).map rowL) = ((latestR X).map pairR).map pairC := by unfold listC; rw [List.map_map, List.map_map]; rfl
            rwa [e] at this
          have hp9 : PairsIn w9 A9 (latestR X).length ((latestR X).map pairR) := hown9'
          go_wp2_with fail
          refine (rpairs w9 _ _ _ _ _ _ _ _ hp8 hp9 (by omega) (by omega)).mono ?_; rintro e w10 ⟨rfl, hb10⟩
          have hdt : decide ((latestR X).map pairR = (latestR X).map pairR) = true := decide_eq_true rfl
          rw [hdt]
          clear hdt
          have hb70 : Below w7.heap.size w7 w10 := bel2 (bel2 hb8 hb9) hb10
          have hw10 := bel2 hw7 hb70
          have hL10 := hL7.below hb70
          have hown10 := hown7.below hb70
          have hsz10 : w2.heap.size ≤ w10.heap.size := by have := hb70.size; omega
          clear hb8 hb9 hb10 hb70 hp8 hp9 hs8 hown8 hown9 hown9' hO
          go_wp2_with fail
          go_roundw
          case rel => exact ⟨k + 1, X, A1, cap1, by omega, by go_num, rfl, by omega, hown10, hL10, hok, hw10, hsz10⟩
          case measure => simp [intOf]; omega
      · have hkn2 : k = n := by omega
        have hXs : RowsIn wr A1 X.length X := hown.slr
        have hXn : X.length ≤ 40 := by omega
        have hR : Rising ((latestR X).map rowL) := hL.rows.1
        have hgl2 := lastP_get (latestR X) key none hR
        have Hg := Lib.hid hgl2
        clear hgl2 hR hXk hkn hkn2
        go_wp2_with fail
        refine (lget key _ g b _ hL (by simp only [maxLen]; omega)).mono ?_; rintro e w4 ⟨rfl, hb4⟩
        have hL4 := hL.below hb4
        have hs4 : RowsIn w4 A1 X.length X := SlR.below hXs hb4
        have hw4 := bel2 hw3 hb4
        obtain ⟨gv, hgv⟩ : ∃ gv, getS ((latestR X).map rowL) key = gv := ⟨_, rfl⟩
        obtain ⟨gk, hgk⟩ : ∃ gk, (getL ((latestR X).map rowL) key).isSome = gk := ⟨_, rfl⟩
        rw [hgv, hgk]
        have Hgv := Lib.hid hgv; have Hgk := Lib.hid hgk
        clear hgv hgk hb4 hL hown hXs hw3 hsz3
        go_wp2_with fail
        refine (rlist w4 A1 X.length cap1 X hs4 (by omega)).mono ?_; rintro e w5 ⟨A5, cap5, rfl, hown5, hb5⟩
        have hL5 := hL4.below hb5
        have hs5 : RowsIn w5 A1 X.length X := SlR.below hs4 hb5
        have hw5 := bel2 hw4 hb5
        have hown5' := hown5.slr
        rw [List.length_map] at hown5' ⊢
        have hp5 : PairsIn w5 A5 (latestR X).length ((latestR X).map pairR) := hown5'
        obtain ⟨N, hN⟩ : ∃ N, (latestR X).length = N := ⟨_, rfl⟩
        have hNl : N ≤ 40 := by omega
        rw [hN] at hp5 ⊢
        have hPl := hp5.len
        obtain ⟨P, hP⟩ : ∃ P, (latestR X).map pairR = P := ⟨_, rfl⟩
        rw [hP] at hp5 hPl
        have HPl := Lib.hid hPl
        have HP := Lib.hid hP
        clear hPl hP hN hown5 hown5' hb5 hL4 hs4 hw4
        go_wp2_with fail
        go_loopw [11, 12, 14] (fun v v2 i wr => ∃ (k : Nat) (o : Option ByteArray) (s : ByteArray) (t : Bool), k ≤ N ∧ i = .int .i64 k ∧ v = .string s ∧ v2 = .bool t ∧ Hid (s = o.getD ⟨#[]⟩ ∧ t = o.isSome ∧ o = lastP (P.take k) key none) ∧ Below w5.heap.size w5 wr) (fun _ _ i _ => N - (intOf i).toNat)
        case atStart => exact ⟨0, none, ⟨#[]⟩, false, Nat.zero_le _, rfl, rfl, rfl, (show _ ∧ _ ∧ _ from ⟨rfl, rfl, rfl⟩), Below.refl _ _⟩
        case round =>
          obtain ⟨k, o, s, t, hk2, rfl, rfl, rfl, ho, hb6⟩ := hrel
          by_cases hlt2 : k < N
          · obtain ⟨q, oo, rfl, hr, hkey, hval⟩ := PairsIn.get (SlR.below hp5 hb6) hlt2 (by rw [HPl.out]; exact hlt2)
            have hX : P.take (k + 1) = P.take k ++ [P[k]'(by rw [HPl.out]; exact hlt2)] := by rw [List.take_add_one, List.getElem?_eq_getElem (by rw [HPl.out]; exact hlt2)]; rfl
            obtain ⟨x, hx⟩ : ∃ x, P[k]'(by rw [HPl.out]; exact hlt2) = x := ⟨_, rfl⟩
            rw [hx] at hkey hval hX
            have hsn := lastP_snoc (P.take k) x key none
            rw [← hX] at hsn
            have Hsn := Lib.hid hsn
            clear hx hX hr hsn
            cases hkk : (x.key.toList == key.toList) with
            | true =>
              have he : x.key = key := toList_inj.1 (beq_iff_eq.1 hkk)
              have He := Lib.hid he
              clear he
              go_wp2_with fail
              go_roundw
              case rel => exact ⟨k + 1, some x.val, x.val, true, by omega, by go_num, rfl, rfl, (show _ ∧ _ ∧ _ from ⟨rfl, rfl, by rw [Hsn.out, if_pos He.out]⟩), hb6⟩
              case measure => simp [intOf]; omega
            | false =>
              have he : x.key ≠ key := fun e => by rw [e] at hkk; simp at hkk
              have He := Lib.hid he
              clear he
              go_wp2_with fail
              go_roundw
              case rel => exact ⟨k + 1, o, s, t, by omega, by go_num, rfl, rfl, (show _ ∧ _ ∧ _ from ⟨ho.out.1, ho.out.2.1, by rw [Hsn.out, if_neg He.out]; exact ho.out.2.2⟩), hb6⟩
              case measure => simp [intOf]; omega
          · have hkN : k = N := by omega
            have hto : P.take k = P := List.take_of_length_le (by rw [HPl.out]; omega)
            have hoo := ho.out.2.2
            rw [hto, ← HP.out, Hg.out] at hoo
            have hsg : s = gv := by
              rw [ho.out.1, hoo, ← Hgv.out]
              unfold getS
              cases getL ((latestR X).map rowL) key <;> rfl
            have htg : t = gk := by
              rw [ho.out.2.1, hoo, ← Hgk.out]
              cases getL ((latestR X).map rowL) key <;> rfl
            subst hsg; subst htg
            have hL6 := hL5.below hb6
            have hs6 : RowsIn wr A1 X.length X := SlR.below hs5 hb6
            have hw6 := bel2 hw5 hb6
            have hLl : ((latestR X).map rowL).length ≤ 1000000 := by have := latestR_length X; rw [List.length_map]; omega
            clear hkN hto hoo ho hL5 hs5 hw5 hp5
            go_wp2_with fail
            refine (lput _ _ _ _ hL6 hLl).mono ?_; rintro e w7 ⟨rfl, hb7⟩
            have hs7 : RowsIn w7 A1 X.length X := SlR.below hs6 hb7
            have hw7 := bel2 hw6 hb7
            obtain ⟨s7, hs7e⟩ : ∃ s7 : ByteArray, (⟨(putB ((latestR X).map rowL)).toArray⟩ : ByteArray) = s7 := ⟨_, rfl⟩
            rw [hs7e]
            have Hs7 := Lib.hid hs7e
            clear hs7e hb7 hL6 hs6 hw6
            go_wp2_with fail
            refine (rput w7 A1 X.length cap1 X hs7 (by omega) hok.out).mono ?_; rintro e w8 ⟨s8, rfl, hs8, hb8⟩
            have h78 : s7 = s8 := by
              rw [← Hs7.out]
              refine ByteArray.ext (Array.toList_inj.mp ?_)
              rw [hs8]
            subst h78
            have hw8 := bel2 hw7 hb8
            clear hs8 hb8 hs7
            go_wp2_with fail
            refine (awake_any _).mono ?_; rintro e w9 ⟨rfl, hb9⟩
            go_wp2_with fail
            go_ret
            exact ⟨rfl, bel2 hw8 hb9⟩

end Go.Proofs.Ytlonihfhgfmplaa
