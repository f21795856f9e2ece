/- Part 13 of the texts that lead to this claim: the walks of the functions and the plain law, in order. -/
import Derived.Test.YtgfpjjppeldhbaaGreatDoorMo12

/- The reference of operations (petrelref07): Of. -/
namespace Go.Proofs.YtgfpjjppeldhbaaGreatDoor
open Go.RowKit

@[go_sem] theorem buildRr_s (s : ByteArray) (w : World) : (bdS 112 #[(0, .string s)]).run Tryz.prog w = .ok (.agg (rrC ⟨s, 0⟩)) w := by kernel_rfl

set_option maxRecDepth 100000 in
set_option maxHeartbeats 4000000 in
theorem rop_of (s : ByteArray) (w : World) (hs : s.size ≤ 9223372036854775807) :
    Calls Tryz.prog 27 #[.string s] w (OfRes w s.data.toList) := by
  obtain ⟨l, hl⟩ : ∃ l, s.data.toList = l := ⟨_, rfl⟩
  have hsl : s = mkB l := by rw [← hl]; rfl
  have hll : l.length ≤ 9223372036854775807 := by rw [← hl]; exact hs
  have hb0 : Below w.heap.size w ((w.alloc (.cells (opPC opP0) 52)).alloc (.cells (rrC ⟨mkB l, 0⟩) 112)) := ((Below.refl _ _).alloc (Nat.le_refl _) _).alloc (by simp) _
  have hg2 : ((w.alloc (.cells (opPC opP0) 52)).alloc (.cells (rrC ⟨mkB l, 0⟩) 112)).heap[w.heap.size]? = some (.cells (opPC opP0) 52 (0, 0)) := by
    rw [Below.heap_alloc _ _ _ (by simp)]; exact heap_alloc_new w _
  have hr1 : RrAt ((w.alloc (.cells (opPC opP0) 52)).alloc (.cells (rrC ⟨mkB l, 0⟩) 112)) (w.heap.size + 1) l 0 := ⟨hll, by
    have := heap_alloc_new (w.alloc (.cells (opPC opP0) 52)) (.cells (rrC ⟨mkB l, 0⟩) 112)
    simpa using this⟩
  rw [hl]
  subst hsl
  clear hl hs
  have hE : opE l = if rawE 1 l 0 ≠ 0 then rawE 1 l 0
    else if numV 1 l 0 = 0 ∨ 7 < numV 1 l 0 then 10
    else if endE (takeO (numV 1 l 0) (rawL 1 l 0) 0).l (takeO (numV 1 l 0) (rawL 1 l 0) 0).e ≠ 0 then endE (takeO (numV 1 l 0) (rawL 1 l 0) 0).l (takeO (numV 1 l 0) (rawL 1 l 0) 0).e
    else chkO (takeO (numV 1 l 0) (rawL 1 l 0) 0).o := rfl
  have hO : opO l = (takeO (numV 1 l 0) (rawL 1 l 0) 0).o := rfl
  have hk8 := numV_lt 1 l 0
  have hk9 : numV 1 l 0 < 256 := by simpa using hk8
  have HE := Lib.hid hE
  have HO := Lib.hid hO
  clear hE hO hk8
  show Calls Tryz.prog 27 #[.string (mkB l)] w _
  go_enter Tryz.func27, Tryz.ntmps27
  go_upto_region 2 with fail
  obtain ⟨ga, hga⟩ : ∃ ga, w.heap.size = ga := ⟨_, rfl⟩
  have Hga := Lib.hid hga
  obtain ⟨W, hW⟩ : ∃ W, W = (w.alloc (.cells (opPC opP0) 52)).alloc (.cells (rrC ⟨mkB l, 0⟩) 112) := ⟨_, rfl⟩
  rw [← hW] at hb0 hg2 hr1 ⊢
  rw [hga] at hg2 hr1 hb0 ⊢
  clear hW hga
  obtain ⟨gr, hgr⟩ : ∃ gr, ga + 1 = gr := ⟨_, rfl⟩
  have hgar : ga < gr := by omega
  rw [hgr] at hr1 ⊢
  clear hgr
  go_wp2_with fail
  refine (rr_num W gr 1 l 0 hr1 (.inl rfl)).mono ?_; rintro en w2 ⟨rfl, hr2, hk2⟩
  have hg22 := (hk2.block ga (by have := hr1.lt; omega) (by simp; omega)).trans hg2
  have hb02 : Below ga w w2 := hb0.trans (hk2.below (by have := hr1.lt; omega) (by simp; omega))
  obtain ⟨k, hk⟩ : ∃ k, numV 1 l 0 = k := ⟨_, rfl⟩
  rw [hk] at HE HO hk9 ⊢
  clear hr1 hk2 hg2 hb0 hk
  have hbx : Below w2.heap.size w2 (w2.alloc (.cells (opPC ⟨k, 0, ⟨#[]⟩, ⟨#[]⟩, id0, .slice none 0 0⟩) 52)) := (Below.refl _ _).alloc (Nat.le_refl _) _
  have hg3 : (w2.alloc (.cells (opPC ⟨k, 0, ⟨#[]⟩, ⟨#[]⟩, id0, .slice none 0 0⟩) 52)).heap[w2.heap.size]? = some (.cells (opPC ⟨k, 0, ⟨#[]⟩, ⟨#[]⟩, id0, .slice none 0 0⟩) 52 (0, 0)) := heap_alloc_new w2 _
  have hg2 := (hbx.block ga (Array.getElem?_eq_some_iff.1 hg22).1).trans hg22
  have hr3 := hr2.below hbx
  have hrlt := hr2.lt
  have hb03 : Below ga w (w2.alloc (.cells (opPC ⟨k, 0, ⟨#[]⟩, ⟨#[]⟩, id0, .slice none 0 0⟩) 52)) := hb02.trans (hbx.mono (by omega))
  clear hbx hg22 hr2 hb02
  go_upto_region 3 with fail
  obtain ⟨go, hgo⟩ : ∃ go, w2.heap.size = go := ⟨_, rfl⟩
  obtain ⟨W, hW⟩ : ∃ W, W = w2.alloc (.cells (opPC ⟨k, 0, ⟨#[]⟩, ⟨#[]⟩, id0, .slice none 0 0⟩) 52) := ⟨_, rfl⟩
  rw [← hW] at hg3 hg2 hr3 hb03 ⊢
  rw [hgo] at hg3 hrlt ⊢
  clear hW hgo
  obtain ⟨c0, c1, hfz⟩ := rr_cells hr3
  have hx0 : W.cell? ⟨go, 0, none⟩ = some (.int .i64 k) := by rw [cell_of_row W go 0 _ _ _ hg3]; simp [go_sem]
  have hgoW : go < W.heap.size := (Array.getElem?_eq_some_iff.1 hg3).1
  by_cases he : rawE 1 l 0 = 0
  · have hEE := HE.out
    rw [if_neg (by rw [he]; simp)] at hEE
    rw [he] at hr3 c1
    have HEE := Lib.hid hEE
    clear hEE he HE
    by_cases hk0 : k = 0 ∨ 7 < k
    · have h2 := HEE.out
      rw [if_pos hk0] at h2
      have hem := has_empty k
      rw [decide_eq_true hk0] at hem
      have chs := rop_has k W (by omega)
      have HEE2 := Lib.hid h2
      clear h2 HEE HO hk0
      have hsto := run_stS_at (P := Tryz.prog) infoOpP W ga (opPC opP0) (opPC opP0) _ hg2 (by simp) (by simp) (opPC_one _ rfl)
      have Hfin := Lib.hid (setRow_heap W ga _ (opPC opP0) _ _ hg2)
      have hkf : Keep [ga] W (W.setRow ga (opPC opP0)) := ⟨rfl, rfl, rfl, by simp [World.setRow], fun x _ hx => setRow_other W ga x _ (by simpa using hx)⟩
      have hbf : Below ga w (W.setRow ga (opPC opP0)) := hb03.trans (hkf.below (by have := hr3.lt; omega) (by simp))
      have Hbf := Lib.hid hbf
      clear hbf hkf hg2 hr3 hb03 hg3
      go_wp2_with fail
      refine chs.mono ?_; rintro en w3 ⟨rfl, rfl⟩
      go_wp2_with fail
      refine bodyPost_ret (results_cell_tmp Tryz.results27 _ _ ga 52 (opPC opP0) (0, 0) _ rfl Hfin.out Tryz.underlying52 rfl (by first | (rw [opPC_size]; exact infoOpP) | (rw [opC_size]; exact infoOpP))) rfl ?_
      exact ⟨_, by rw [HEE2.out]; rfl, fun h0 => absurd (HEE2.out.symm.trans h0) (by omega), fun _ => rfl, by rw [Hga.out]; exact Hbf.out⟩
    · have h2 := HEE.out
      rw [if_neg hk0] at h2
      have HEE2 := Lib.hid h2
      have hk1 : 1 ≤ k := by omega
      have hk7 : k ≤ 7 := by omega
      have hpl := plain_take k (rawL 1 l 0) 0 hk1 hk7
      have hck := chk_take k (rawL 1 l 0) 0 hk1 hk7
      have hrn := of_run k (rawL 1 l 0) 0 hk1 hk7
      have hks := take_small k (rawL 1 l 0) 0 hk1 hk7
      have hem := has_empty k
      rw [decide_eq_false hk0] at hem
      have chs := rop_has k W (by omega)
      have hsz := has_size k
      have hch := has_chars k
      obtain ⟨S, hS⟩ : ∃ S, hasS k = S := ⟨_, rfl⟩
      rw [hS] at hem chs hsz hch hrn
      obtain ⟨R, hR⟩ : ∃ R, takeO k (rawL 1 l 0) 0 = R := ⟨_, rfl⟩
      rw [hR] at HEE2 HO hpl hck hrn hks
      obtain ⟨o, l2, e2⟩ := R
      dsimp only at *
      have Hpl := Lib.hid hpl
      have Hck := Lib.hid hck
      have Hrn := Lib.hid hrn
      have HKS := Lib.hid hks
      have Hch := Lib.hid hch
      clear h2 HEE hk0 hR hpl hck hS hrn hch hfz c0 hks
      go_wp2_with fail
      refine chs.mono ?_; rintro en w3 ⟨rfl, rfl⟩
      clear chs c1
      have Hb03 := Lib.hid hb03
      clear hb03
      go_wp2_with fail
      go_loopw [7, 8, 9] (fun iv _ _ wr => ∃ (i : Nat) (s : OfS) (A : Option Addr) (cap : Nat), i ≤ S.size ∧ iv = .int .i64 i ∧ Hid (S.data.toList.foldl (ofStep k) (ofS0 (rawL 1 l 0) 0) = (S.data.toList.drop i).foldl (ofStep k) s) ∧ wr.heap[go]? = some (.cells (opPC ⟨k, s.n, s.key, s.val, s.ref, .slice A s.refs.length cap⟩) 52 (0, 0)) ∧ wr.heap[ga]? = some (.cells (opPC opP0) 52 (0, 0)) ∧ RrAt wr gr s.l s.e ∧ Own wr W.heap.size 39 32 A s.refs.length cap (s.refs.map idC) ∧ Keep [gr, go] W wr ∧ s.refs.length ≤ 255 * i) (fun iv _ _ _ => S.size - (intOf iv).toNat)
      case atStart => exact ⟨0, ofS0 (rawL 1 l 0) 0, none, 0, Nat.zero_le _, rfl, rfl, hg3, hg2, hr3, Own.nil _ _ _ _, Keep.refl _ _, Nat.le_refl _⟩
      case round =>
        clear hg3 hg2 hr3 hx0
        obtain ⟨i, s, A, cap, hi, rfl, hrun, hg3, hg2, hE, hown, hK, hrl⟩ := hrel
        obtain ⟨n1, key1, val1, ref1, refs1, l1, e1⟩ := s
        dsimp only at *
        by_cases hlt : i < S.size
        · have hlt' : i < S.data.toList.length := by simpa using hlt
          have hdr : S.data.toList.drop i = S.data.toList[i]'hlt' :: S.data.toList.drop (i + 1) := List.drop_eq_getElem_cons hlt'
          have hge : S[i]'hlt = S.data.toList[i]'hlt' := by rw [Array.getElem_toList]; rfl
          have hmem : S.data.toList[i]'hlt' ∈ S.data.toList := List.getElem_mem hlt'
          have hcs := Hch.out _ hmem
          obtain ⟨c, hc⟩ : ∃ c, S.data.toList[i]'hlt' = c := ⟨_, rfl⟩
          rw [hc] at hdr hge hcs
          have hrun2 := hrun.out
          rw [hdr, List.foldl_cons] at hrun2
          have Hrun := Lib.hid hrun2
          clear hdr hmem hc hrun hrun2 hlt'
          have hno : go ∉ [gr] := by simp; omega
          have hnr : gr ∉ [go] := by simp; omega
          have hna : ga ∉ [gr, go] := by simp; omega
          have hA1 : ∀ x ∈ blk A, x ∉ [gr] := fun x hx => by have := (hown.at_base hx).1; simp; omega
          have hA2 : ∀ x ∈ blk A, x ∉ [go] := fun x hx => by have := (hown.at_base hx).1; simp; omega
          rcases hcs with rfl | rfl | rfl | rfl | rfl
          · skip
            go_wp2_with fail
            refine (rr_num _ gr 4 _ _ hE (.inr rfl)).mono ?_; rintro en w3 ⟨rfl, hE3, hk23⟩
            have hn4 := numV_lt 4 l1 e1
            obtain ⟨nv, hnv⟩ : ∃ nv, numV 4 l1 e1 = nv := ⟨_, rfl⟩
            rw [hnv] at hn4 ⊢
            have Hst : Hid (ofStep k ⟨n1, key1, val1, ref1, refs1, l1, e1⟩ 78 = ⟨if k = 1 then (nv : Int) - 2147483648 else (nv : Int), key1, val1, ref1, refs1, rawL 4 l1 e1, rawE 4 l1 e1⟩) := Lib.hid (by rw [of_78, hnv])
            clear hnv
            have hn5 : nv < 4294967296 := by simpa using hn4
            clear hn4
            have h83 := (hk23.block go (Array.getElem?_eq_some_iff.1 hg3).1 hno).trans hg3
            have hc83 : ∀ j, w3.frozen? ⟨go, j, none⟩ = false := fun j => by simp [World.frozen?, h83]
            have f0 := hc83 1
            have hg3n := heap_setCell_same h83 1 (.int .i64 nv)
            rw [opPC_set1] at hg3n
            have hks := Keep.setCell w3 ⟨go, 1, none⟩ (.int .i64 nv)
            have hEn := hE3.kept hks hnr
            have hg2n := ((Keep.trans (hk23.mono (S' := [gr, go]) (by simp)) (hks.mono (S' := [gr, go]) (by simp)) (fun x hx => .inl hx)).block ga (Array.getElem?_eq_some_iff.1 hg2).1 hna).trans hg2
            have hownn := (hown.kept hk23 hA1).kept hks hA2
            have hKn : Keep [gr, go] W (w3.setCell ⟨go, 1, none⟩ (.int .i64 nv)) := Keep.trans (Keep.trans hK (hk23.mono (S' := [gr, go]) (by simp)) (fun x hx => .inl hx)) (hks.mono (S' := [gr, go]) (by simp)) (fun x hx => .inl hx)
            clear hc83 hks hE hE3 hk23 hown hK hg2 hg3
            have x0 : w3.cell? ⟨go, 1, none⟩ = some (.int .i64 n1) := by rw [cell_of_row w3 go _ _ _ _ h83]; simp [go_sem]
            clear h83
            go_upto_region 19 with fail
            obtain ⟨W', hW'⟩ : ∃ W', W' = w3.setCell ⟨go, 1, none⟩ (.int .i64 nv) := ⟨_, rfl⟩
            rw [← hW'] at hg3n hEn hg2n hownn hKn ⊢
            clear hW' x0 f0
            have y0 : W'.cell? ⟨go, 0, none⟩ = some (.int .i64 k) := by rw [cell_of_row W' go _ _ _ _ hg3n]; simp [go_sem]
            cases hkb : ((k : Int) == 1) with
            | false =>
              have hk1n : k ≠ 1 := by intro h; subst h; simp at hkb
              have hst := Hst.out
              rw [if_neg hk1n] at hst
              have Hst2 := Lib.hid hst
              clear hst hk1n Hst
              go_wp2_with fail
              go_roundw
              case rel => exact ⟨i + 1, ⟨nv, key1, val1, ref1, refs1, rawL 4 l1 e1, rawE 4 l1 e1⟩, A, cap, by omega, by go_num, (show _ = _ by rw [Hrun.out, Hst2.out]), hg3n, hg2n, hEn, hownn, hKn, (by simp only; omega)⟩
              case measure => simp [intOf]; omega
            | true =>
              have hk1y : k = 1 := by have : (k : Int) = 1 := by simpa using hkb
                                      omega
              have hst := Hst.out
              rw [if_pos hk1y] at hst
              have Hst2 := Lib.hid hst
              clear hst hk1y Hst
              have f0 : W'.frozen? ⟨go, 1, none⟩ = false := by simp [World.frozen?, hg3n]
              have x0 : W'.cell? ⟨go, 1, none⟩ = some (.int .i64 nv) := by rw [cell_of_row W' go _ _ _ _ hg3n]; simp [go_sem]
              have hw : IntKind.i64.wrap ((nv : Int) - 2147483648) = (nv : Int) - 2147483648 := IntWalk.i64_in _ (by omega)
              have hg3m := heap_setCell_same hg3n 1 (.int .i64 ((nv : Int) - 2147483648))
              rw [opPC_set1] at hg3m
              have hks := Keep.setCell W' ⟨go, 1, none⟩ (.int .i64 ((nv : Int) - 2147483648))
              have hEm := RrAt.kept hEn hks hnr
              have hg2m := (hks.block ga (Array.getElem?_eq_some_iff.1 hg2n).1 (by simp; omega)).trans hg2n
              have hownm := hownn.kept hks hA2
              have hKm : Keep [gr, go] W (W'.setCell ⟨go, 1, none⟩ (.int .i64 ((nv : Int) - 2147483648))) := Keep.trans hKn (hks.mono (S' := [gr, go]) (by simp)) (fun x hx => .inl hx)
              clear hks hEn hg2n hownn hKn hg3n
              go_wp2_with fail
              go_roundw
              case rel => exact ⟨i + 1, ⟨(nv : Int) - 2147483648, key1, val1, ref1, refs1, rawL 4 l1 e1, rawE 4 l1 e1⟩, A, cap, by omega, by go_num, (show _ = _ by rw [Hrun.out, Hst2.out]), hg3m, hg2m, hEm, hownm, hKm, (by simp only; omega)⟩
              case measure => simp [intOf]; omega
          · skip
            go_wp2_with fail
            refine (rr_num _ gr 1 _ _ hE (.inl rfl)).mono ?_; rintro en w2 ⟨rfl, hr2, hk2⟩
            have hn2 := numV_lt 1 l1 e1
            go_wp2_with fail
            refine (rr_raw _ gr _ _ _ hr2 (by omega)).mono ?_; rintro en w3 ⟨rfl, hE3, hk3⟩
            replace hE3 : RrAt w3 gr (txL l1 e1) (txE l1 e1) := hE3
            obtain ⟨tv, hkv⟩ : ∃ tv, mkB (rawV (numV 1 l1 e1) (rawL 1 l1 e1) (rawE 1 l1 e1)) = tv := ⟨_, rfl⟩
            have Htv := Lib.hid (show txV l1 e1 = tv from hkv)
            rw [hkv]
            have hk23 : Keep [gr] wr w3 := Keep.trans hk2 hk3 (fun x hx => .inl hx)
            clear hr2 hk2 hk3 hn2 hkv
            have h83 := (hk23.block go (Array.getElem?_eq_some_iff.1 hg3).1 hno).trans hg3
            have hc83 : ∀ j, w3.frozen? ⟨go, j, none⟩ = false := fun j => by simp [World.frozen?, h83]
            have f0 := hc83 2
            have hg3n := heap_setCell_same h83 2 (.string tv)
            rw [opPC_set2] at hg3n
            have hks := Keep.setCell w3 ⟨go, 2, none⟩ (.string tv)
            have hEn := hE3.kept hks hnr
            have hg2n := ((Keep.trans (hk23.mono (S' := [gr, go]) (by simp)) (hks.mono (S' := [gr, go]) (by simp)) (fun x hx => .inl hx)).block ga (Array.getElem?_eq_some_iff.1 hg2).1 hna).trans hg2
            have hownn := (hown.kept hk23 hA1).kept hks hA2
            have hKn : Keep [gr, go] W (w3.setCell ⟨go, 2, none⟩ (.string tv)) := Keep.trans (Keep.trans hK (hk23.mono (S' := [gr, go]) (by simp)) (fun x hx => .inl hx)) (hks.mono (S' := [gr, go]) (by simp)) (fun x hx => .inl hx)
            clear hc83 hks hE hE3 hk23 hown hK hg2 hg3
            have x0 : w3.cell? ⟨go, 2, none⟩ = some (.string key1) := by rw [cell_of_row w3 go _ _ _ _ h83]; simp [go_sem]
            clear h83
            go_wp2_with fail
            go_roundw
            case rel => exact ⟨i + 1, ⟨n1, tv, val1, ref1, refs1, txL l1 e1, txE l1 e1⟩, A, cap, by omega, by go_num, (show _ = _ by rw [Hrun.out, of_75, Htv.out]), hg3n, hg2n, hEn, hownn, hKn, (by simp only; omega)⟩
            case measure => simp [intOf]; omega
          · skip
            go_wp2_with fail
            refine (rr_num _ gr 1 _ _ hE (.inl rfl)).mono ?_; rintro en w2 ⟨rfl, hr2, hk2⟩
            have hn2 := numV_lt 1 l1 e1
            go_wp2_with fail
            refine (rr_raw _ gr _ _ _ hr2 (by omega)).mono ?_; rintro en w3 ⟨rfl, hE3, hk3⟩
            replace hE3 : RrAt w3 gr (txL l1 e1) (txE l1 e1) := hE3
            obtain ⟨tv, hkv⟩ : ∃ tv, mkB (rawV (numV 1 l1 e1) (rawL 1 l1 e1) (rawE 1 l1 e1)) = tv := ⟨_, rfl⟩
            have Htv := Lib.hid (show txV l1 e1 = tv from hkv)
            rw [hkv]
            have hk23 : Keep [gr] wr w3 := Keep.trans hk2 hk3 (fun x hx => .inl hx)
            clear hr2 hk2 hk3 hn2 hkv
            have h83 := (hk23.block go (Array.getElem?_eq_some_iff.1 hg3).1 hno).trans hg3
            have hc83 : ∀ j, w3.frozen? ⟨go, j, none⟩ = false := fun j => by simp [World.frozen?, h83]
            have f0 := hc83 3
            have hg3n := heap_setCell_same h83 3 (.string tv)
            rw [opPC_set3] at hg3n
            have hks := Keep.setCell w3 ⟨go, 3, none⟩ (.string tv)
            have hEn := hE3.kept hks hnr
            have hg2n := ((Keep.trans (hk23.mono (S' := [gr, go]) (by simp)) (hks.mono (S' := [gr, go]) (by simp)) (fun x hx => .inl hx)).block ga (Array.getElem?_eq_some_iff.1 hg2).1 hna).trans hg2
            have hownn := (hown.kept hk23 hA1).kept hks hA2
            have hKn : Keep [gr, go] W (w3.setCell ⟨go, 3, none⟩ (.string tv)) := Keep.trans (Keep.trans hK (hk23.mono (S' := [gr, go]) (by simp)) (fun x hx => .inl hx)) (hks.mono (S' := [gr, go]) (by simp)) (fun x hx => .inl hx)
            clear hc83 hks hE hE3 hk23 hown hK hg2 hg3
            have x0 : w3.cell? ⟨go, 3, none⟩ = some (.string val1) := by rw [cell_of_row w3 go _ _ _ _ h83]; simp [go_sem]
            clear h83
            go_wp2_with fail
            go_roundw
            case rel => exact ⟨i + 1, ⟨n1, key1, tv, ref1, refs1, txL l1 e1, txE l1 e1⟩, A, cap, by omega, by go_num, (show _ = _ by rw [Hrun.out, of_86, Htv.out]), hg3n, hg2n, hEn, hownn, hKn, (by simp only; omega)⟩
            case measure => simp [intOf]; omega
          · skip
            go_wp2_with fail
            refine (rr_id _ gr _ _ hE).mono ?_; rintro en w3 ⟨rfl, hE3, hk23⟩
            obtain ⟨d, hd⟩ : ∃ d, idOf (rawV 32 l1 e1) = d := ⟨_, rfl⟩
            have Hst : Hid (ofStep k ⟨n1, key1, val1, ref1, refs1, l1, e1⟩ 82 = ⟨n1, key1, val1, d, refs1, rawL 32 l1 e1, rawE 32 l1 e1⟩) := Lib.hid (by rw [of_82, hd])
            rw [hd]
            clear hd
            have h83 := (hk23.block go (Array.getElem?_eq_some_iff.1 hg3).1 hno).trans hg3
            have hst := store_ref d h83
            have hg3n := setRow_heap w3 go _ (opPC ⟨k, n1, key1, val1, d, .slice A refs1.length cap⟩) _ _ h83
            have hks : Keep [go] w3 (w3.setRow go (opPC ⟨k, n1, key1, val1, d, .slice A refs1.length cap⟩)) := ⟨rfl, rfl, rfl, by simp [World.setRow], fun x _ hx => setRow_other w3 go x _ (by simpa using hx)⟩
            have hEn := RrAt.kept hE3 hks hnr
            have hg2n := ((Keep.trans (hk23.mono (S' := [gr, go]) (by simp)) (hks.mono (S' := [gr, go]) (by simp)) (fun x hx => .inl hx)).block ga (Array.getElem?_eq_some_iff.1 hg2).1 hna).trans hg2
            have hownn := (hown.kept hk23 hA1).kept hks hA2
            have hKn : Keep [gr, go] W (w3.setRow go (opPC ⟨k, n1, key1, val1, d, .slice A refs1.length cap⟩)) := Keep.trans (Keep.trans hK (hk23.mono (S' := [gr, go]) (by simp)) (fun x hx => .inl hx)) (hks.mono (S' := [gr, go]) (by simp)) (fun x hx => .inl hx)
            clear hks hE hE3 hk23 hown hK hg2 hg3 h83
            go_wp2_with fail
            go_roundw
            case rel => exact ⟨i + 1, ⟨n1, key1, val1, d, refs1, rawL 32 l1 e1, rawE 32 l1 e1⟩, A, cap, by omega, by go_num, (show _ = _ by rw [Hrun.out, Hst.out]), hg3n, hg2n, hEn, hownn, hKn, (by simp only; omega)⟩
            case measure => simp [intOf]; omega
          · skip
            go_wp2_with fail
            refine (rr_num _ gr 1 _ _ hE (.inl rfl)).mono ?_; rintro en w3 ⟨rfl, hE3, hk23⟩
            have hn4 := numV_lt 1 l1 e1
            obtain ⟨N, hN⟩ : ∃ N, numV 1 l1 e1 = N := ⟨_, rfl⟩
            obtain ⟨LR, hLR⟩ : ∃ LR, ofLoop N ⟨refs1, rawL 1 l1 e1, rawE 1 l1 e1⟩ = LR := ⟨_, rfl⟩
            have Hst : Hid (ofStep k ⟨n1, key1, val1, ref1, refs1, l1, e1⟩ 83 = ⟨n1, key1, val1, ref1, LR.ids, LR.l, LR.e⟩) := Lib.hid (by rw [of_83, hN, hLR])
            have HLR := Lib.hid (show idLoop N ⟨refs1, rawL 1 l1 e1, rawE 1 l1 e1⟩ = LR from hLR)
            rw [hN] at hn4 ⊢
            clear hN hLR
            have hn5 : N < 256 := by simpa using hn4
            clear hn4
            have hg3n := (hk23.block go (Array.getElem?_eq_some_iff.1 hg3).1 hno).trans hg3
            have hg2n := (hk23.block ga (Array.getElem?_eq_some_iff.1 hg2).1 (by simp; omega)).trans hg2
            have hownn := hown.kept hk23 hA1
            have hKn : Keep [gr, go] W w3 := Keep.trans hK (hk23.mono (S' := [gr, go]) (by simp)) (fun x hx => .inl hx)
            clear hE hk23 hown hK hg2 hg3 hA1 hA2
            obtain ⟨W3, rfl⟩ : ∃ W' : World, W' = w3 := ⟨_, rfl⟩
            go_wp2_with fail
            go_loopw [9] (fun jv wr => ∃ (j : Nat) (s : IdsR) (A : Option Addr) (cap : Nat), j ≤ N ∧ jv = .int .i64 j ∧ s.ids.length = refs1.length + j ∧ Hid (LR = idLoop (N - j) s) ∧ wr.heap[go]? = some (.cells (opPC ⟨k, n1, key1, val1, ref1, .slice A s.ids.length cap⟩) 52 (0, 0)) ∧ wr.heap[ga]? = some (.cells (opPC opP0) 52 (0, 0)) ∧ RrAt wr gr s.l s.e ∧ Own wr W.heap.size 39 32 A s.ids.length cap (s.ids.map idC) ∧ Keep [gr, go] W wr) (fun jv _ => N - (intOf jv).toNat)
            case atStart => exact ⟨0, ⟨refs1, rawL 1 l1 e1, rawE 1 l1 e1⟩, A, cap, Nat.zero_le _, rfl, rfl, (show _ = _ from HLR.out.symm), hg3n, hg2n, hE3, hownn, hKn⟩
            case round =>
              clear hg3n hg2n hE3 hownn hKn HLR
              obtain ⟨j, s, A, cap, hj, rfl, hsl, hlp, hg3, hg2, hE, hown, hK⟩ := hrel
              obtain ⟨ids, l3, e3⟩ := s
              dsimp only at *
              by_cases hltj : j < N
              · have hlp2 := hlp.out
                rw [show N - j = (N - (j + 1)) + 1 by omega] at hlp2
                have hlp3 : LR = idLoop (N - (j + 1)) ⟨ids ++ [idOf (rawV 32 l3 e3)], rawL 32 l3 e3, rawE 32 l3 e3⟩ := hlp2
                have Hlp := Lib.hid hlp3
                clear hlp hlp2 hlp3
                have hAb : ∀ x ∈ blk A, W.heap.size ≤ x ∧ x < wr.heap.size := fun x hx => hown.at_base hx
                have hnS : go ∉ gr :: blk A := by
                  intro hm
                  rcases List.mem_cons.1 hm with h1 | h1
                  · omega
                  · have := (hAb _ h1).1; omega
                have hgA : gr ∉ blk A := fun h1 => by have := (hAb _ h1).1; omega
                have hgaS : ga ∉ gr :: blk A := by
                  intro hm
                  rcases List.mem_cons.1 hm with h1 | h1
                  · omega
                  · have := (hAb _ h1).1; omega
                have x0 : wr.cell? ⟨go, 36, none⟩ = some (.slice A ids.length cap) := by rw [cell_of_row wr go _ _ _ _ hg3]; simp [go_sem]
                have cid := rr_id wr.drew gr l3 e3 (hE.kept (Keep.drew wr) (by simp))
                have hids : ids.length ≤ 1275 := by omega
                have HSL := Lib.hid hsl
                have hKW := Lib.hid hK
                clear hsl hK
                go_upto_region 16 with fail
                refine wp_region_lexf (Kp (gr :: blk A) wr) false (by kernel_rfl) (by kernel_rfl) (by kernel_rfl) (by kernel_rfl) (kp_drew (gr :: blk A) wr) ?_
                have hne := kp_some (gr :: blk A) wr
                have hS := kp_drew (gr :: blk A) wr
                have b1 := ksub_cell x0 hnS
                repeat (refine wpLx_loose ?_ ?_; (focus (simp only [chainOp]; done)); intro K hK; go_simp; refine hK _ ?_; clear hK K)
                refine wpLx_chain ?_ ?_ ?_
                focus (exact hS)
                focus (simp only [chainOp]; done)
                intro K hK
                go_simp
                refine cid.mono ?_
                rintro en w4 ⟨rfl, hE4, hk4⟩
                replace hS := kp_next hS hk4 (by simp)
                refine ⟨_, rfl, hS, hK _ _ ?_⟩
                clear hK K cid
                repeat (refine wpLx_loose ?_ ?_; (focus (simp only [chainOp]; done)); intro K hK; go_simp; refine hK _ ?_; clear hK K)
                refine wpLx_chain ?_ ?_ ?_
                focus (exact hS)
                focus (simp only [chainOp]; done)
                intro K hK
                go_simp
                refine step_keep (kp_alloc hS _) (fun hS => ?_)
                refine hK _ _ ?_
                clear hK K
                obtain ⟨d, hd⟩ : ∃ d, idOf (rawV 32 l3 e3) = d := ⟨_, rfl⟩
                rw [hd] at hS ⊢
                have Hd := Lib.hid hd
                clear hd
                have hk04 : Keep [gr] wr w4 := Keep.trans ((Keep.drew wr).mono (S' := [gr]) (by simp)) hk4 (fun x hx => .inl hx)
                have hb4 := Keep.alloc w4 (.cells (idC d) 39)
                have hownr := (hown.kept hk04 (fun x hx => by have := (hAb x hx).1; simp; omega)).kept hb4 (by simp)
                have hrow2 : rowAt (w4.alloc (.cells (idC d) 39)) w4.heap.size 0 32 = some (idC d) := by simp [go_sem]
                have hsz4 := hk04.size
                have hBs : W.heap.size ≤ (w4.alloc (.cells (idC d) 39)).heap.size := by have := hKW.out.size; simp; omega
                refine Lx_append einfoId rfl hownr rfl hrow2 (idC_one _) (by omega) (by omega) hBs ?_
                intro A2 cap2 w5 hown5 hk5 hsub5
                have hk45 : Keep (blk A) w4 w5 := Keep.trans (hb4.mono (S' := blk A) (by simp)) hk5 (fun x hx => .inl hx)
                have hS5 : Keep (gr :: blk A) wr w5 := Keep.trans (hk04.mono (S' := gr :: blk A) (by simp)) (hk45.mono (S' := gr :: blk A) (fun x hx => .inl (List.mem_cons_of_mem _ hx))) (fun x hx => .inl hx)
                refine step_keep hS5 (fun hS6 => ?_)
                repeat (refine wpLx_loose ?_ ?_; (focus (simp only [chainOp]; done)); intro K hK; go_simp; refine hK _ ?_; clear hK K)
                have hgl1 : go < wr.heap.size := (Array.getElem?_eq_some_iff.1 hg3).1
                have hgl2 : ga < wr.heap.size := (Array.getElem?_eq_some_iff.1 hg2).1
                have hg35 := (hS5.block go hgl1 hnS).trans hg3
                have hg25 := (hS5.block ga hgl2 hgaS).trans hg2
                have f0 : w5.frozen? ⟨go, 36, none⟩ = false := by simp [World.frozen?, hg35]
                have d0 : w5.cell? ⟨go, 36, none⟩ = some (.slice A ids.length cap) := by rw [cell_of_row w5 go _ _ _ _ hg35]; simp [go_sem]
                refine wpLx_end ?_ ?_
                focus (simp only [chainOp]; done)
                intro K hK
                go_simp
                refine hK _ _ ?_
                clear hK K
                have hg3n := heap_setCell_same hg35 36 (.slice A2 (ids.length + 1) cap2)
                rw [opPC_set36] at hg3n
                have hks := Keep.setCell w5 ⟨go, 36, none⟩ (.slice A2 (ids.length + 1) cap2)
                have hE6 := (RrAt.kept hE4 hk45 hgA).kept hks hnr
                have hg2n := (hks.block ga (by have := hS5.size; omega) (by simp; omega)).trans hg25
                have hA2 : ∀ x ∈ blk A2, x ∉ [go] := fun x hx => by have := (hown5.at_base hx).1; simp; omega
                have hown6 := hown5.kept hks hA2
                have hKn : Keep [gr, go] W (w5.setCell ⟨go, 36, none⟩ (.slice A2 (ids.length + 1) cap2)) := by
                  have h1 : Keep [gr, go] W w5 := (Keep.trans (hKW.out.mono (S' := gr :: go :: blk A) (by intro x hx; simp at hx ⊢; omega)) (hS5.mono (S' := gr :: go :: blk A) (fun x hx => .inl (by rcases List.mem_cons.1 hx with h | h; exact List.mem_cons.2 (.inl h); exact List.mem_cons.2 (.inr (List.mem_cons.2 (.inr h)))))) (fun x hx => .inl hx)).narrow (fun x hx => by
                    rcases List.mem_cons.1 hx with h | h
                    · exact .inl (by simp [h])
                    · rcases List.mem_cons.1 h with h | h
                      · exact .inl (by simp [h])
                      · right; exact (hAb x h).1)
                  exact Keep.trans h1 (hks.mono (S' := [gr, go]) (by simp)) (fun x hx => .inl hx)
                have hl2 : (ids ++ [d]).length = ids.length + 1 := by simp
                rw [show ids.map idC ++ [idC d] = (ids ++ [d]).map idC by simp] at hown6
                have Hl2 := Lib.hid hl2
                rw [Hd.out] at Hlp
                clear hl2 f0 d0 b1 hne hS hS5 hS6 hk04 hk45 hk4 hk5 hsub5 hown5 hownr hrow2 hb4 hg35 hg25 hks hE4 hBs hown hE hg3 hg2 x0 hA2 hKW
                go_wp2_with fail
                go_roundw
                case rel => exact ⟨j + 1, ⟨ids ++ [d], rawL 32 l3 e3, rawE 32 l3 e3⟩, A2, cap2, by omega, by go_num, by rw [Hl2.out, HSL.out]; omega, Hlp, (by rw [Hl2.out]; exact hg3n), hg2n, hE6, (by rw [Hl2.out]; exact hown6), hKn⟩
                case measure => simp [intOf]; omega
              · have hfin : LR = ⟨ids, l3, e3⟩ := by rw [hlp.out, show N - j = 0 by omega]; rfl
                have Hfl := Lib.hid hfin
                have hlb : ids.length ≤ 255 * (i + 1) := by omega
                have Hlb := Lib.hid hlb
                clear hsl hfin hlp hlb
                go_wp2_with fail
                go_roundw
                case rel => exact ⟨i + 1, ⟨n1, key1, val1, ref1, ids, l3, e3⟩, A, cap, by omega, by go_num, (show _ = _ by rw [Hrun.out, Hst.out, Hfl.out]), hg3, hg2, hE, hown, hK, Hlb.out⟩
                case measure => simp [intOf]; omega
        · skip
          have hrf := Hrn.out
          have hrx := hrun.out
          rw [List.drop_eq_nil_of_le (by simp; omega), List.foldl_nil] at hrx
          rw [hrx] at hrf
          have hoeq : (⟨⟨k, n1, key1, val1, ref1, refs1⟩, l1, e1⟩ : OpR) = ⟨o, l2, e2⟩ := hrf
          injection hoeq with ho1 ho2 ho3
          have HO1 := Lib.hid ho1
          subst ho2 ho3
          have hb04 : Below ga w wr := Hb03.out.trans (hK.below (by have := hgoW; omega) (by simp; omega))
          have hga4 : ga ≤ wr.heap.size := by have := hb04.size; have := Hga.out; omega
          have hcells : opPC ⟨k, n1, key1, val1, ref1, .slice A refs1.length cap⟩ = opC o A cap := by rw [← HO1.out]; rfl
          have hown4 : Own wr W.heap.size 39 32 A o.refs.length cap (o.refs.map idC) := by rw [← HO1.out]; exact hown
          rw [hcells] at hg3
          have hrow : rowAt wr go 0 37 = some (opC o A cap) := by unfold rowAt; rw [hg3]; simp [go_sem]
          have ce := rr_end _ gr l1 e1 hE
          have HgoW := Lib.hid hgoW
          clear hrf hrx hrun hK hi hrl Hrn Hch Hb03 hown hcells hg3 hE ho1 hsz hem hgoW
          go_wp2_with fail
          refine ce.mono ?_; rintro en w5 ⟨rfl, hb5⟩
          have hg25 := (hb5.block ga (Array.getElem?_eq_some_iff.1 hg2).1).trans hg2
          have hrow5 : rowAt w5 go 0 37 = some (opC o A cap) := (rowAt_of_block (hb5.block go (rowAt_lt hrow)) _ _).trans hrow
          have hown5 := hown4.below hb5
          have hb05 : Below ga w w5 := hb04.trans (hb5.mono hga4)
          have hga5 : ga ≤ w5.heap.size := by have := hb5.size; omega
          clear ce hg2 hrow hown4 hb04 hb5 hga4
          by_cases hee : endE l1 e1 = 0
          · have h2 := HEE2.out
            rw [if_neg (by rw [hee]; simp), ← Hck.out] at h2
            rw [hee]
            have hT5 : TagsIn w5 A o.refs.length o.refs := hown5.slr
            have cc := rop_check o A cap w5 Hpl.out.1 hT5 (by have := Hpl.out.2.2; omega) HKS.out.1 HKS.out.2
            obtain ⟨ck, hckk⟩ : ∃ ck, chkN o = ck := ⟨_, rfl⟩
            rw [hckk] at h2 cc
            have HEE3 := Lib.hid h2
            clear h2 HEE2 hee hckk hT5
            go_wp2_with fail
            refine cc.mono ?_; rintro en w6 ⟨rfl, hb6⟩
            have hg26 := (hb6.block ga (Array.getElem?_eq_some_iff.1 hg25).1).trans hg25
            have hrow6 : rowAt w6 go 0 37 = some (opC o A cap) := (rowAt_of_block (hb6.block go (rowAt_lt hrow5)) _ _).trans hrow5
            have hown6 := hown5.below hb6
            have hb06 : Below ga w w6 := hb05.trans (hb6.mono hga5)
            have hga6 : ga ≤ w6.heap.size := by have := hb6.size; omega
            clear cc hg25 hrow5 hown5 hb05 hb6
            cases hc0 : (ck == 0) with
            | true =>
              obtain rfl : ck = 0 := by simpa using hc0
              have hsto := run_stS_at (P := Tryz.prog) infoOpP w6 ga (opPC opP0) (opC o A cap) _ hg26 (by simp) (by simp) (opC_one o A cap)
              have Hfin := Lib.hid (setRow_heap w6 ga _ (opC o A cap) _ _ hg26)
              have hkf : Keep [ga] w6 (w6.setRow ga (opC o A cap)) := ⟨rfl, rfl, rfl, by simp [World.setRow], fun x _ hx => setRow_other w6 ga x _ (by simpa using hx)⟩
              have hbf : Below ga w (w6.setRow ga (opC o A cap)) := hb06.trans (hkf.below hga6 (by simp))
              have hownf : Own (w6.setRow ga (opC o A cap)) w.heap.size 39 32 A o.refs.length cap (o.refs.map idC) := (hown6.mono (by have := Hga.out; have := HgoW.out; omega)).kept hkf (fun x hx => by have := (hown6.at_base hx).1; have := HgoW.out; simp; omega)
              have Hbf := Lib.hid hbf
              have Hownf := Lib.hid hownf
              clear hbf hkf hg26 hb06 hownf hown6
              go_wp2_with fail
              refine bodyPost_ret (results_cell_tmp Tryz.results27 _ _ ga 52 (opC o A cap) (0, 0) _ rfl Hfin.out Tryz.underlying52 rfl (by first | (rw [opPC_size]; exact infoOpP) | (rw [opC_size]; exact infoOpP))) rfl ?_
              exact ⟨_, by rw [HEE3.out]; rfl, fun _ => ⟨A, cap, by rw [HO.out], by rw [HO.out]; exact Hownf.out⟩, fun h0 => absurd HEE3.out h0, by rw [Hga.out]; exact Hbf.out⟩
            | false =>
              have hcn : ck ≠ 0 := by simpa using hc0
              have hcb : (ck != 0) = true := by simpa using hc0
              have Hcn := Lib.hid hcn
              clear hcn
              have hsto := run_stS_at (P := Tryz.prog) infoOpP w6 ga (opPC opP0) (opPC opP0) _ hg26 (by simp) (by simp) (opPC_one _ rfl)
              have Hfin := Lib.hid (setRow_heap w6 ga _ (opPC opP0) _ _ hg26)
              have hkf : Keep [ga] w6 (w6.setRow ga (opPC opP0)) := ⟨rfl, rfl, rfl, by simp [World.setRow], fun x _ hx => setRow_other w6 ga x _ (by simpa using hx)⟩
              have hbf : Below ga w (w6.setRow ga (opPC opP0)) := hb06.trans (hkf.below hga6 (by simp))
              have Hbf := Lib.hid hbf
              clear hbf hkf hg26 hb06 hown6
              go_wp2_with fail
              refine bodyPost_ret (results_cell_tmp Tryz.results27 _ _ ga 52 (opPC opP0) (0, 0) _ rfl Hfin.out Tryz.underlying52 rfl (by first | (rw [opPC_size]; exact infoOpP) | (rw [opC_size]; exact infoOpP))) rfl ?_
              exact ⟨_, by rw [HEE3.out]; rfl, fun h0 => absurd (HEE3.out.symm.trans h0) Hcn.out, fun _ => rfl, by rw [Hga.out]; exact Hbf.out⟩
          · have h2 := HEE2.out
            rw [if_pos hee] at h2
            obtain ⟨ee, hEe⟩ : ∃ ee, endE l1 e1 = ee := ⟨_, rfl⟩
            rw [hEe] at h2 hee ⊢
            have HEE3 := Lib.hid h2
            have Hcn := Lib.hid hee
            have hcb : (ee != 0) = true := by simpa using hee
            have hcc : (ee == 0) = false := by simpa using hee
            clear h2 HEE2 hee hEe hrow5 hown5
            have hsto := run_stS_at (P := Tryz.prog) infoOpP w5 ga (opPC opP0) (opPC opP0) _ hg25 (by simp) (by simp) (opPC_one _ rfl)
            have Hfin := Lib.hid (setRow_heap w5 ga _ (opPC opP0) _ _ hg25)
            have hkf : Keep [ga] w5 (w5.setRow ga (opPC opP0)) := ⟨rfl, rfl, rfl, by simp [World.setRow], fun x _ hx => setRow_other w5 ga x _ (by simpa using hx)⟩
            have hbf : Below ga w (w5.setRow ga (opPC opP0)) := hb05.trans (hkf.below hga5 (by simp))
            have Hbf := Lib.hid hbf
            clear hbf hkf hg25 hb05
            go_wp2_with fail
            refine bodyPost_ret (results_cell_tmp Tryz.results27 _ _ ga 52 (opPC opP0) (0, 0) _ rfl Hfin.out Tryz.underlying52 rfl (by first | (rw [opPC_size]; exact infoOpP) | (rw [opC_size]; exact infoOpP))) rfl ?_
            exact ⟨_, by rw [HEE3.out]; rfl, fun h0 => absurd (HEE3.out.symm.trans h0) Hcn.out, fun _ => rfl, by rw [Hga.out]; exact Hbf.out⟩
  · have hEE := HE.out
    rw [if_pos he] at hEE
    obtain ⟨e1, he1⟩ : ∃ e1, rawE 1 l 0 = e1 := ⟨_, rfl⟩
    rw [he1] at hEE he hr3 c1
    have HEE := Lib.hid hEE
    have He := Lib.hid he
    have hen : (e1 != 0) = true := by simpa using he
    clear hEE he HE HO he1
    have hsto := run_stS_at (P := Tryz.prog) infoOpP W.drew ga (opPC opP0) (opPC opP0) _ hg2 (by simp) (by simp) (opPC_one _ rfl)
    have Hfin := Lib.hid (setRow_heap W.drew ga _ (opPC opP0) _ _ hg2)
    have hkf : Keep [ga] W.drew (W.drew.setRow ga (opPC opP0)) := ⟨rfl, rfl, rfl, by simp [World.setRow], fun x _ hx => setRow_other W.drew ga x _ (by simpa using hx)⟩
    have hbf : Below ga w (W.drew.setRow ga (opPC opP0)) := (hb03.trans ((bel_drew W).mono (by have := hr3.lt; omega))).trans (hkf.below (by have := hr3.lt; simp; omega) (by simp))
    have Hbf := Lib.hid hbf
    clear hbf hr3 hb03 hg3
    go_upto_region 4 with fail
    refine wp_region_lex (Kp [ga] W) false (by kernel_rfl) (by kernel_rfl) (by kernel_rfl) (kp_drew [ga] W) ?_
    have hne := kp_some [ga] W
    have hS := kp_drew [ga] W
    have b1 := ksub_cell c1 (S := [ga]) (by simp; omega)
    repeat (refine wpLx_loose ?_ ?_; (focus (simp only [chainOp]; done)); intro K hK; go_simp; refine hK _ ?_; clear hK K)
    refine wpLx_chain ?_ ?_ ?_
    focus (exact hS)
    focus (simp only [chainOp]; done)
    intro K hK
    go_simp
    refine step_keep (kp_next hS hkf (by simp)) (fun hS => ?_)
    refine hK _ _ ?_
    clear hK K
    repeat (refine wpLx_loose ?_ ?_; (focus (simp only [chainOp]; done)); intro K hK; go_simp; refine hK _ ?_; clear hK K)
    refine wpLx_nil ?_
    intro hS
    clear hS b1 hne hkf hg2 hx0 hfz c0 c1
    go_wp2_with fail
    refine bodyPost_ret (results_cell_tmp Tryz.results27 _ _ ga 52 (opPC opP0) (0, 0) _ rfl Hfin.out Tryz.underlying52 rfl (by first | (rw [opPC_size]; exact infoOpP) | (rw [opC_size]; exact infoOpP))) rfl ?_
    exact ⟨_, by rw [HEE.out]; rfl, fun h0 => absurd (HEE.out.symm.trans h0) He.out, fun _ => rfl, by rw [Hga.out]; exact Hbf.out⟩
end Go.Proofs.YtgfpjjppeldhbaaGreatDoor

/- Walks of the reference of layer 5 (topic): each answers what the program's own function answers. -/
namespace Go.Proofs.YtgfpjjppeldhbaaGreatDoor
open Go.RowKit

def lettersS : ByteArray := ⟨#[63, 99, 115, 108, 109, 114]⟩

set_option maxHeartbeats 400000 in
theorem letters_any (w : World) :
    Calls Tryz.prog 71 #[] w fun e w' => e = .returned (.string lettersS) ∧ w = w' := by
  go_enter Tryz.func71, Tryz.ntmps71
  go_wp2_with fail
  go_ret
  exact ⟨rfl, rfl⟩

theorem lettersS_at {k : Nat} (h1 : 1 ≤ k) (h2 : k < 6) : ∃ h : k < lettersS.size, ((lettersS[k]'h).toNat : Int) = letterC k := by
  have : k = 1 ∨ k = 2 ∨ k = 3 ∨ k = 4 ∨ k = 5 := by omega
  rcases this with rfl | rfl | rfl | rfl | rfl <;> exact ⟨by decide, by decide⟩

theorem smallC_cases (c : Int) : smallC c = true ↔ (97 ≤ c ∧ c ≤ 122) ∨ (48 ≤ c ∧ c ≤ 57) ∨ c = 45 := by
  unfold smallC; simp; omega

set_option maxHeartbeats 400000 in
theorem rkind_short (s : ByteArray) (w : World) (hs : s.size ≤ 9223372036854775807) (h : ¬ (2 ≤ s.size ∧ s.size ≤ 12)) :
    Calls Tryz.prog 29 #[.string s] w fun e w' => e = .returned (.int .i64 (kindB s)) ∧ Below w.heap.size w w' := by
  have H : Hid (kindB s = 0) := by show kindB s = 0; unfold kindB; rw [formedB_short s h]; rfl
  by_cases h1 : 2 ≤ s.size
  · have h4 : 12 < s.size := by omega
    clear h
    go_enter Tryz.func29, Tryz.ntmps29
    go_wp2_with fail
    all_goals
      go_ret
      exact ⟨ret_int H.out.symm, Below.refl _ _⟩
  · clear h
    go_enter Tryz.func29, Tryz.ntmps29
    go_wp2_with fail
    all_goals
      go_ret
      exact ⟨ret_int H.out.symm, Below.refl _ _⟩

set_option maxHeartbeats 400000 in
theorem rkind_last (s : ByteArray) (w : World) (h : 2 ≤ s.size) (h1 : s.size ≤ 12) (h2 : bt s (s.size - 1) = 45) :
    Calls Tryz.prog 29 #[.string s] w fun e w' => e = .returned (.int .i64 (kindB s)) ∧ Below w.heap.size w w' := by
  have h3 : (((s[s.size - 1]'(by omega)).toNat : Int) == 45) = true := by
    rw [beq_iff_eq]; rw [bt_get (by omega)]; exact h2
  have H : Hid (kindB s = 0) := by show kindB s = 0; unfold kindB; rw [formedB_last s h2]; rfl
  clear h2
  go_enter Tryz.func29, Tryz.ntmps29
  go_wp2_with fail
  go_ret
  exact ⟨ret_int H.out.symm, Below.refl _ _⟩

set_option maxHeartbeats 1000000 in
theorem rkind_long (s : ByteArray) (w : World) (h : 2 ≤ s.size) (h1 : s.size ≤ 12) (h2 : bt s (s.size - 1) ≠ 45) :
    Calls Tryz.prog 29 #[.string s] w fun e w' => e = .returned (.int .i64 (kindB s)) ∧ Below w.heap.size w w' := by
  have h3 : (((s[s.size - 1]'(by omega)).toNat : Int) == 45) = false := by
    rw [beq_eq_false_iff_ne]; intro g; rw [bt_get (by omega)] at g; exact h2 g
  have hfin := formedB_tail s h h1 h2
  have H2 := Lib.hid hfin; clear h2 hfin
  have h0 : (0 : Int) < s.size := by omega
  have hg : ((s[0]'(by omega)).toNat : Int) = bt s 0 := bt_get (by omega)
  go_enter Tryz.func29, Tryz.ntmps29
  go_wp2_with fail
  go_loop [3] (fun iv => ∃ i : Nat, 1 ≤ i ∧ i ≤ s.size ∧ iv = .int .i64 i ∧ Hid (tailB s i = tailB s 1)) (fun iv => s.size - (intOf iv).toNat)
  case atStart => exact ⟨1, by omega, by omega, rfl, rfl⟩
  case round =>
    obtain ⟨i, hi1, hi2, rfl, hc⟩ := hrel
    by_cases hp : i < s.size
    · have hgi : ((s[i]'hp).toNat : Int) = bt s i := bt_get hp
      cases hb : smallC (bt s i) with
      | true =>
        have hb' := (smallC_cases _).1 hb
        rw [← hgi] at hb'
        have Hb := Lib.hid hb; clear hb hgi
        go_wp2_with fail
        all_goals
          go_round
          case rel => exact ⟨i + 1, by omega, by omega, by go_num, (tailB_yes s _ Hb.out).trans hc.out⟩
          case measure => simp [intOf]; omega
      | false =>
        have hb' : ¬ ((97 ≤ bt s i ∧ bt s i ≤ 122) ∨ (48 ≤ bt s i ∧ bt s i ≤ 57) ∨ bt s i = 45) := fun g => by rw [(smallC_cases _).2 g] at hb; cases hb
        rw [← hgi] at hb'
        have hb2 : (((s[i]'hp).toNat : Int) != 45) = true := by rw [bne_iff_ne]; omega
        have Hb := Lib.hid hb; clear hb hgi
        go_wp2_with fail
        all_goals
          go_ret
          exact ⟨ret_int (by unfold kindB; rw [H2.out, ← hc.out, tailB_no s _ (by omega) Hb.out]; rfl), Below.refl _ _⟩
    · have hfm : kindB s = kindC (bt s 0) := by unfold kindB; rw [H2.out, ← hc.out, tailB_end s _ (by omega)]; rfl
      have H := Lib.hid hfm; clear hfm
      go_wp2_with fail
      go_loopw [5] (fun kv wr => ∃ k : Nat, 1 ≤ k ∧ k ≤ 6 ∧ kv = .int .i64 k ∧ Below w.heap.size w wr ∧ Hid (∀ j : Int, 1 ≤ j → j < k → letterC j ≠ bt s 0)) (fun kv _ => (6 - intOf kv).toNat)
      case atStart => exact ⟨1, by omega, by omega, rfl, Below.refl _ _, fun j h1 h2 => by omega⟩
      case round =>
        obtain ⟨k, hk1, hk2, rfl, hb1, hj⟩ := hrel
        by_cases hk : k < 6
        · obtain ⟨hks, hkl⟩ := lettersS_at hk1 hk
          have hks' : (k : Int) < lettersS.size := by omega
          by_cases hl : letterC k = bt s 0
          · have hl' : (((lettersS[k]'hks).toNat : Int) == bt s 0) = true := by rw [beq_iff_eq, hkl]; exact hl
            have Hl := Lib.hid hl; clear hl hkl
            go_wp2_with fail
            go_quiet ((go_at_call 71; exact quiet_eq (letters_any _)))
            go_wp2_with fail
            go_ret
            exact ⟨ret_int (by rw [H.out, kindC_hit (by omega) (by omega) Hl.out]), below_drewN hb1 _⟩
          · have hl' : (((lettersS[k]'hks).toNat : Int) == bt s 0) = false := by rw [beq_eq_false_iff_ne, hkl]; exact hl
            have Hl := Lib.hid hl; clear hl hkl
            go_wp2_with fail
            go_quiet ((go_at_call 71; exact quiet_eq (letters_any _)))
            go_wp2_with fail
            go_roundw
            case rel =>
              refine ⟨k + 1, by omega, by omega, by go_num, below_drewN hb1 _, fun j h1 h2 => ?_⟩
              by_cases e : j = k
              · subst e; exact Hl.out
              · exact hj.out j h1 (by omega)
            case measure => simp [intOf]; omega
        · go_wp2_with fail
          go_ret
          exact ⟨ret_int (by rw [H.out, kindC_miss (fun j h1 h2 => hj.out j h1 (by omega))]), hb1⟩

theorem rkind_any (s : ByteArray) (w : World) (hs : s.size ≤ 9223372036854775807) :
    Calls Tryz.prog 29 #[.string s] w fun e w' => e = .returned (.int .i64 (kindB s)) ∧ Below w.heap.size w w' := by
  by_cases h : 2 ≤ s.size ∧ s.size ≤ 12
  · by_cases h2 : bt s (s.size - 1) = 45
    · exact rkind_last s w h.1 h.2 h2
    · exact rkind_long s w h.1 h.2 h2
  · exact rkind_short s w hs h

set_option maxHeartbeats 400000 in
theorem rcheck_any (s : ByteArray) (w : World) (hs : s.size ≤ 9223372036854775807) :
    Calls Tryz.prog 21 #[.string s] w fun e w' => e = .returned (.int .i64 (checkB s)) ∧ Below w.heap.size w w' := by
  by_cases h : kindB s = 0
  · have h' : (kindB s == 0) = true := by rw [beq_iff_eq]; exact h
    have H : Hid (checkB s = 9) := if_pos h
    clear h
    go_enter Tryz.func21, Tryz.ntmps21
    go_wp2_with fail
    refine (rkind_any _ _ hs).mono ?_; rintro e w1 ⟨rfl, hb⟩
    go_wp2_with fail
    go_ret
    exact ⟨ret_int H.out.symm, hb⟩
  · have h' : (kindB s == 0) = false := by rw [beq_eq_false_iff_ne]; exact h
    have H : Hid (checkB s = 0) := if_neg h
    clear h
    go_enter Tryz.func21, Tryz.ntmps21
    go_wp2_with fail
    refine (rkind_any _ _ hs).mono ?_; rintro e w1 ⟨rfl, hb⟩
    go_wp2_with fail
    go_ret
    exact ⟨ret_int H.out.symm, hb⟩


end Go.Proofs.YtgfpjjppeldhbaaGreatDoor
