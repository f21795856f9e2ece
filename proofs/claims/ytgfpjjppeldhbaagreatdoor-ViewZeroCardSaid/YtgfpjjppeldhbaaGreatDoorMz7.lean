/- Part 7 of the texts that lead to this claim: the walks of the functions and the plain law, in order. -/
import Derived.Test.YtgfpjjppeldhbaaGreatDoorMz6
import Derived.LoopN
import Derived.Laws.StructEq

/- A slice cut at a place, either way. No program is named here. -/
namespace Go.Proofs.YtgfpjjppeldhbaaGreatDoor
open Go.RowKit

/-- A slicing, behind a name that the walk does not open. -/
def slS (T : TypeId) (x : Value) (lo hi mx : Option Value) : Sem Value := Instr.sliceAt T x lo hi mx

section
variable {P : Program} {T E : TypeId} {k bytes : Nat}
theorem ElemInfo.sizeOf_run (I : ElemInfo P T E k bytes) (w : World) : (Go.sizeOf E).run P w = .ok k w := by
  obtain ⟨i, z, hi, hz, hsz, hby, hzs⟩ := I.info
  simp [Go.sizeOf, typeInfo, hi, hsz]
theorem run_bound (w : World) (m cap : Nat) (hm : m ≤ cap) (c : BoundsCode) : (Instr.sliceBound (.int .i64 m) cap c).run P w = .ok m w := by
  unfold Instr.sliceBound
  have h1 : (asIntOf (.int .i64 (m : Int))).run P w = .ok (.i64, (m : Int)) w := rfl
  simp only [Sem.run_bind, h1, Result.andThen_ok]
  rw [if_pos ⟨by omega, by omega⟩]
  simp
theorem run_slS (I : ElemInfo P T E k bytes) (w : World) (x : Value) (lo hi mx : Option Value) : (slS T x lo hi mx).run P w = (Instr.slice T x lo hi mx).run P w := by
  unfold slS
  simp [Instr.sliceAt, run_underlying I.und]
/-- 's[:m]'. -/
theorem run_slS_lo (I : ElemInfo P T E k bytes) (w : World) (A : Option Addr) (n cap m : Nat) (hm : m ≤ cap) :
    (slS T (.slice A n cap) none (some (.int .i64 m)) none).run P w = .ok (.slice A m cap) w := by
  rw [run_slS I]
  unfold Instr.slice Instr.sliceBounds
  simp only [Sem.run_bind, run_underlying I.und, Result.andThen_ok, Sem.run_pure, run_bound w m cap hm, I.sizeOf_run w]
  have e : (if cap = 0 then A else A.map fun a => a.add (0 * k)) = A := by
    split
    · rfl
    · cases A with
      | none => rfl
      | some a => simp [Addr.add]
  simp only [Nat.sub_zero, e]
/-- 's[m:]'. -/
theorem run_slS_hi (I : ElemInfo P T E k bytes) (w : World) (A : Option Addr) (n cap m : Nat) (hm : m ≤ n) (hc : n ≤ cap) (hA : A = none → cap = 0) (hsp : ∀ a, A = some a → a.spot = none) :
    ∃ A2 c2, (slS T (.slice A n cap) (some (.int .i64 m)) none none).run P w = .ok (.slice A2 (n - m) c2) w ∧ (∀ (w' : World) (L : List (Array Value)), SlR w' A n k L → SlR w' A2 (n - m) k (L.drop m)) ∧ (A2 = none → c2 = 0) := by
  refine ⟨if cap = m then A else A.map fun a => a.add (m * k), cap - m, ?_, ?_, ?_⟩
  · rw [run_slS I]
    unfold Instr.slice Instr.sliceBounds
    simp only [Sem.run_bind, run_underlying I.und, Result.andThen_ok, Sem.run_pure, run_bound w m n hm, I.sizeOf_run w, Option.isSome_none, Bool.false_eq_true, if_false]
  · intro w' L hL
    by_cases hcm : cap = m
    · have : n - m = 0 := by omega
      rw [this]
      exact ⟨by rw [List.length_drop, hL.1]; omega, fun h => absurd h (by omega)⟩
    · rw [if_neg hcm]
      cases A with
      | none => exact absurd (hA rfl) (by omega)
      | some a =>
        obtain ⟨g, o, sp⟩ := a
        have : sp = none := hsp _ rfl
        subst this
        have e : (⟨g, o, none⟩ : Addr).add (m * k) = ⟨g, o + m * k, none⟩ := by unfold Addr.add; split <;> simp_all
        simp only [Option.map_some, e]
        exact hL.drop_ hm
  · intro h
    by_cases hcm : cap = m
    · omega
    · rw [if_neg hcm] at h
      cases A with
      | none => have := hA rfl; omega
      | some a => cases h
theorem Own.hi (I : ElemInfo P T E k bytes) {w : World} {B : Nat} {A : Option Addr} {n cap : Nat} {L : List (Array Value)} (h : Own w B E k A n cap L) {m : Nat} (hm : m ≤ n) :
    ∃ A2 c2, (∀ w0 : World, (slS T (.slice A n cap) (some (.int .i64 m)) none none).run P w0 = .ok (.slice A2 (n - m) c2) w0) ∧ (∀ w' : World, SlR w' A n k L → SlR w' A2 (n - m) k (L.drop m)) ∧ (A2 = none → c2 = 0) := by
  have hA := h.cap_le
  have hsp : ∀ a, A = some a → a.spot = none := fun a e => by
    rcases h.addr with e' | ⟨g, e'⟩
    · rw [e'] at e; cases e
    · rw [e'] at e; injection e with e; rw [← e]
  obtain ⟨A2, c2, h1, h2, h3⟩ := run_slS_hi (P := P) I w A n cap m hm hA.1 (fun e => (hA.2 e).2) hsp
  refine ⟨A2, c2, fun w0 => ?_, fun w' hw => h2 w' L hw, h3⟩
  obtain ⟨A3, c3, k1, _, _⟩ := run_slS_hi (P := P) I w0 A n cap m hm hA.1 (fun e => (hA.2 e).2) hsp
  rw [run_slS I] at h1 k1 ⊢
  unfold Instr.slice Instr.sliceBounds at h1 k1 ⊢
  simp only [Sem.run_bind, run_underlying I.und, Result.andThen_ok, Sem.run_pure, run_bound _ m n hm, I.sizeOf_run, Option.isSome_none, Bool.false_eq_true, if_false] at h1 ⊢
  injection h1 with h1 _
  rw [h1]
end

/-- 'm = append(m, x...)' in a region that draws its order, by the text or by a tree. -/
theorem Tx_rows {P : Program} {ops : Array Oper} {S : World → Prop} {cv fb : Bool} {Q : Act → World → Prop} {a : Act} {w : World} {i : Nat} {nx : Sched} {dst : Option Tmp} {s x : Operand} {ty : TypeId} {pos : String} {after : Array Edge} {T E : TypeId} {k bytes : Nat} (I : ElemInfo P T E k bytes)
    (ho' : nthL ops.toList i = some { dst := dst, op := .call { callee := .builtin .append, args := #[s, x], argTypes := #[T, T] }, type := ty, pos := pos, after := after, guard := none })
    {B : Nat} {A : Option Addr} {n cap : Nat} {L : List (Array Value)} (hs : a.eval s = .slice A n cap) (hown : Own w B E k A n cap L)
    {A2 : Option Addr} {m c : Nat} {R : List (Array Value)} (hx : a.eval x = .slice A2 m c) (hsrc : SlR w A2 m k R) (hform : A2 = none → c = 0) (hone : ∀ r ∈ R, ∀ u ∈ r.toList, u.oneCell' = true) (hbytes : (n + m) * bytes ≤ 140737488355328) (hn : n + m ≤ 9223372036854775807) (hB : B ≤ w.heap.size)
    (h : ∀ A' cap' w', Own w' B E k A' (n + m) cap' (L ++ R) → Keep (blk A) w w' → (∀ x ∈ blk A', x ∈ blk A ∨ w.heap.size ≤ x) → S w' ∧ wpTx P ops S cv fb Q nx (a.put dst (.slice A' (n + m) cap')) w') :
    wpTx P ops S cv fb Q (.one i nx) a w := by
  obtain ⟨A', cap', w', hrun, h1, h2, h3⟩ := append_rows I hown hsrc hform hone hbytes hn hB ty
  obtain ⟨k1, k2⟩ := h A' cap' w' h1 h2 h3
  have ho := nthL_ops ho'
  refine ⟨?_⟩
  unfold wpT0 stepT
  simp only [ho]
  rw [if_pos (by rfl)]
  rw [exec_append a.eval hs hx hrun]
  exact ⟨rfl, .inl k1, k2.out⟩
theorem Tx_append {P : Program} {ops : Array Oper} {S : World → Prop} {cv fb : Bool} {Q : Act → World → Prop} {a : Act} {w : World} {i : Nat} {nx : Sched} {dst : Option Tmp} {s x : Operand} {ty : TypeId} {pos : String} {after : Array Edge} {T E : TypeId} {k bytes : Nat} (I : ElemInfo P T E k bytes)
    (ho' : nthL ops.toList i = some { dst := dst, op := .call { callee := .builtin .append, args := #[s, x], argTypes := #[T, T] }, type := ty, pos := pos, after := after, guard := none })
    {B : Nat} {A : Option Addr} {n cap : Nat} {L : List (Array Value)} (hs : a.eval s = .slice A n cap) (hown : Own w B E k A n cap L)
    {q o c : Nat} {cs : Array Value} (hx : a.eval x = .slice (some ⟨q, o, none⟩) 1 c) (hrow : rowAt w q o k = some cs) (hone : ∀ u ∈ cs.toList, u.oneCell' = true) (hbytes : (n + 1) * bytes ≤ 140737488355328) (hn : n + 1 ≤ 9223372036854775807) (hB : B ≤ w.heap.size)
    (h : ∀ A' cap' w', Own w' B E k A' (n + 1) cap' (L ++ [cs]) → Keep (blk A) w w' → (∀ x ∈ blk A', x ∈ blk A ∨ w.heap.size ≤ x) → S w' ∧ wpTx P ops S cv fb Q nx (a.put dst (.slice A' (n + 1) cap')) w') :
    wpTx P ops S cv fb Q (.one i nx) a w := by
  obtain ⟨A', cap', w', hrun, h1, h2, h3⟩ := append_one I hown (c := c) hrow hone hbytes hn hB ty
  obtain ⟨k1, k2⟩ := h A' cap' w' h1 h2 h3
  have ho := nthL_ops ho'
  refine ⟨?_⟩
  unfold wpT0 stepT
  simp only [ho]
  rw [if_pos (by rfl)]
  rw [exec_append a.eval hs hx hrun]
  exact ⟨rfl, .inl k1, k2.out⟩

end Go.Proofs.YtgfpjjppeldhbaaGreatDoor

/- Slices that read as rows and can be cut: not the call's own. No program is named here. -/
namespace Go.Proofs.YtgfpjjppeldhbaaGreatDoor
open Go.RowKit

/-- A slice that reads as rows, well made. -/
structure SlW (w : World) (A : Option Addr) (n cap k : Nat) (L : List (Array Value)) : Prop where
  rd : SlR w A n k L
  le : n ≤ cap
  nil : A = none → cap = 0
  plain : ∀ a, A = some a → a.spot = none

section
variable {P : Program} {T E : TypeId} {k bytes : Nat} {w w' : World} {A : Option Addr} {n cap : Nat} {L : List (Array Value)}
theorem SlW.none_ : SlW w none 0 0 k [] := ⟨SlR.nil_, Nat.le_refl _, fun _ => rfl, fun a e => by cases e⟩
theorem SlW.kept {S : List Nat} (h : SlW w A n cap k L) (hk : Keep S w w') (hn : ∀ x ∈ blk A, x ∉ S) : SlW w' A n cap k L := ⟨h.rd.kept hk hn, h.le, h.nil, h.plain⟩
theorem SlW.below (h : SlW w A n cap k L) (hb : Below w.heap.size w w') : SlW w' A n cap k L := ⟨h.rd.below hb, h.le, h.nil, h.plain⟩
theorem SlW.len (h : SlW w A n cap k L) : L.length = n := h.rd.1
theorem Own.slw {B : Nat} (h : Own w B E k A n cap L) : SlW w A n cap k L := by
  have hA := h.cap_le
  refine ⟨h.slr, hA.1, fun e => (hA.2 e).2, fun a e => ?_⟩
  rcases h.addr with e' | ⟨g, e'⟩
  · rw [e'] at e; cases e
  · rw [e'] at e; injection e with e; rw [← e]
theorem SlW.lo (I : ElemInfo P T E k bytes) (h : SlW w A n cap k L) {m : Nat} (hm : m ≤ n) (w0 : World) : (slS T (.slice A n cap) none (some (.int .i64 m)) none).run P w0 = .ok (.slice A m cap) w0 :=
  run_slS_lo I w0 A n cap m (Nat.le_trans hm h.le)
theorem SlW.hi (I : ElemInfo P T E k bytes) (h : SlW w A n cap k L) {m : Nat} (hm : m ≤ n) :
    ∃ A2 c2, (∀ w0 : World, (slS T (.slice A n cap) (some (.int .i64 m)) none none).run P w0 = .ok (.slice A2 (n - m) c2) w0) ∧ (∀ w' : World, SlR w' A n k L → SlR w' A2 (n - m) k (L.drop m)) ∧ (A2 = none → c2 = 0) := by
  obtain ⟨A2, c2, h1, h2, h3⟩ := run_slS_hi (P := P) I w A n cap m hm h.le h.nil h.plain
  refine ⟨A2, c2, fun w0 => ?_, fun w' hw => h2 w' L hw, h3⟩
  obtain ⟨A3, c3, k1, _, _⟩ := run_slS_hi (P := P) I w0 A n cap m hm h.le h.nil h.plain
  rw [run_slS I] at h1 k1 ⊢
  unfold Instr.slice Instr.sliceBounds at h1 k1 ⊢
  simp only [Sem.run_bind, run_underlying I.und, Result.andThen_ok, Sem.run_pure, run_bound _ m n hm, I.sizeOf_run, Option.isSome_none, Bool.false_eq_true, if_false] at h1 ⊢
  injection h1 with h1 _
  rw [h1]
end

end Go.Proofs.YtgfpjjppeldhbaaGreatDoor

/- The reference's sets of ids (petrelref06): With, Set. -/
namespace Go.Proofs.YtgfpjjppeldhbaaGreatDoor
open Go.RowKit

@[go_sem] theorem bsIdN_run (w : World) : (bsS 50 0 #[]).run Tryz.prog w = .ok (.slice (some ⟨w.heap.size, 0, none⟩) 0 0) (w.alloc (.cells #[] 39)) := run_bsS0 einfoId w
@[go_sem ↓] theorem slId_rw (x : Value) (lo hi mx : Option Value) : Instr.sliceAt 50 x lo hi mx = slS 50 x lo hi mx := rfl
abbrev IdsW (w : World) (A : Option Addr) (n cap : Nat) (R : List Id32) : Prop := SlW w A n cap 32 (R.map idC)
theorem onesId (X : List Id32) : ∀ r ∈ X.map idC, ∀ u ∈ r.toList, u.oneCell' = true := by
  intro r hr; obtain ⟨x, _, rfl⟩ := List.mem_map.1 hr; exact idC_one x

set_option maxRecDepth 100000 in
set_option maxHeartbeats 4000000 in
theorem rwith (w : World) (A : Option Addr) (n cap : Nat) (O : List Id32) (d : Id32) (h : IdsW w A n cap O) (hn : n ≤ 1000000) (hris : Ris cmpId O) :
    Calls Tryz.prog 72 #[.slice A n cap, .agg (idC d)] w fun e w' => ∃ A' cap', e = .returned (.slice A' (insC cmpId O d).length cap') ∧ IdsW w' A' (insC cmpId O d).length cap' (insC cmpId O d) ∧ (∀ x ∈ blk A', x ∈ blk A ∨ w.heap.size ≤ x) ∧ Below w.heap.size w w' := by
  have hlen : O.length = n := by simpa using h.len
  have hB : Below w.heap.size w (w.alloc (.cells (idC d) 39)) := (Below.refl _ _).alloc (Nat.le_refl _) _
  have hd0 : rowAt (w.alloc (.cells (idC d) 39)) w.heap.size 0 32 = some (idC d) := by simp [go_sem]
  have h0 := h.below hB
  have c1 := rhas6 (w.alloc (.cells (idC d) 39)) A n cap O d h0.rd (by omega)
  have Hlen := Lib.hid hlen
  clear hlen
  by_cases hin : d ∈ O
  · rw [decide_eq_true hin] at c1
    have hat := insC_old totId hris hin
    have Hat := Lib.hid hat
    clear hat hin
    go_enter Tryz.func72, Tryz.ntmps72
    go_wp2_with fail
    refine c1.mono ?_; rintro e w1 ⟨rfl, hb1⟩
    have h1 := h0.below hb1
    have hbb := bel2 hB hb1
    clear c1
    go_wp2_with fail
    go_ret
    refine ⟨A, cap, by rw [Hat.out, Hlen.out]; rfl, by rw [Hat.out, Hlen.out]; exact h1, fun x hx => .inl hx, hbb⟩
  · rw [decide_eq_false hin] at c1
    have Hin := Lib.hid hin
    clear hin
    go_enter Tryz.func72, Tryz.ntmps72
    go_upto_region 1 with fail
    obtain ⟨gx, hgx⟩ : ∃ gx, w.heap.size = gx := ⟨_, rfl⟩
    have Hgx := Lib.hid hgx
    rw [hgx] at hd0 hB ⊢
    obtain ⟨W0, hW0⟩ : ∃ W0, W0 = w.alloc (.cells (idC d) 39) := ⟨_, rfl⟩
    rw [← hW0] at h0 hd0 hB c1 ⊢
    clear hW0 hgx
    go_wp2_with fail
    refine c1.mono ?_; rintro e w1 ⟨rfl, hb1⟩
    have h1 := h0.below hb1
    have hbb : Below gx w w1 := hB.trans (hb1.mono (by have := hB.size; have := Hgx.out; omega))
    have hr1 : rowAt w1 gx 0 32 = some (idC d) := (rowAt_of_block (hb1.block gx (rowAt_lt hd0)) _ _).trans hd0
    clear c1 hd0 hb1 hB h0
    go_wp2_with fail
    go_loopw [5] (fun j wj => ∃ m : Nat, m ≤ n ∧ j = .int .i64 m ∧ Hid (∀ i (hi : i < O.length), i < m → cmpId O[i] d < 0) ∧ Below w1.heap.size w1 wj) (fun j _ => n - (intOf j).toNat)
    case atStart => exact ⟨0, Nat.zero_le _, rfl, (show ∀ i (hi : i < O.length), i < 0 → _ from fun i _ h => absurd h (by omega)), Below.refl _ _⟩
    case round =>
      obtain ⟨m, hmO, rfl, hlow, hbj⟩ := hrel
      have hrj : rowAt wr gx 0 32 = some (idC d) := (rowAt_of_block (hbj.block gx (rowAt_lt hr1)) _ _).trans hr1
      have hswj := h1.below hbj
      by_cases hmlt : m < n
      · obtain ⟨q, o, rfl, hrO⟩ := TagsIn.get hswj.rd hmlt (by rw [Hlen.out]; exact hmlt)
        have hmem : O[m]'(by rw [Hlen.out]; exact hmlt) ∈ O := List.getElem_mem _
        obtain ⟨y, hy⟩ : ∃ y, O[m]'(by rw [Hlen.out]; exact hmlt) = y := ⟨_, rfl⟩
        rw [hy] at hrO hmem
        have Hy := Lib.hid hy
        have Hmem := Lib.hid hmem
        clear hy hmem
        have c2 := rcompare y d wr.drew
        obtain ⟨c, hc⟩ : ∃ c, cmpId y d = c := ⟨_, rfl⟩
        rw [hc] at c2
        have Hc := Lib.hid hc
        clear hc
        go_upto_region 4 with fail
        refine wp_region_lex (Bel wr) false (by kernel_rfl) (by kernel_rfl) (by kernel_rfl) (bel_drew wr) ?_
        have hne := bel_some wr
        have hS := bel_drew wr
        have b1 := sub_row hrj; have b2 := sub_row hrO
        repeat (refine wpLx_loose ?_ ?_; (focus (simp only [chainOp]; done)); intro K hK; go_simp; refine hK _ ?_; clear hK K)
        refine wpLx_chain ?_ ?_ ?_
        focus (exact hS)
        focus (simp only [chainOp]; done)
        intro K hK
        go_simp
        refine (c2).mono ?_
        rintro e w' ⟨rfl, hb⟩
        replace hS := bel_next hS hb
        refine ⟨_, rfl, hS, hK _ _ ?_⟩
        clear hK K hb
        repeat (refine wpLx_loose ?_ ?_; (focus (simp only [chainOp]; done)); intro K hK; go_simp; refine hK _ ?_; clear hK K)
        refine wpLx_nil ?_
        intro hS
        have hS' : Below wr.heap.size wr w' := hS
        have hbz := bel2 hbj hS'
        clear b1 b2 hne hS c2
        by_cases hyx : c < 0
        · go_wp2_with fail
          go_roundw
          case rel =>
            refine ⟨m + 1, by omega, by go_num, (show ∀ i (hi : i < O.length), i < m + 1 → cmpId O[i] d < 0 from fun i hi hlt => ?_), hbz⟩
            by_cases e : i = m
            · subst e; rw [Hy.out, Hc.out]; exact hyx
            · exact hlow.out i hi (by omega)
          case measure => simp [intOf]; omega
        · have hat := insC_at (c := cmpId) O d m (by rw [Hlen.out]; exact hmO) hlow.out (fun hk' => by
            rw [Hy.out, Hc.out]
            have h1 : c ≠ 0 := fun e => Hin.out (by rw [← (totId.zero _ _).1 (Hc.out.trans e)]; exact Hmem.out)
            omega)
          have Hat := Lib.hid hat
          have hsw := h1.below hbz
          have hrx : rowAt w' gx 0 32 = some (idC d) := (rowAt_of_block (hbz.block gx (rowAt_lt hr1)) _ _).trans hr1
          have hBw : Below gx w w' := hbb.trans (hbz.mono (by have := rowAt_lt hr1; omega))
          clear hat hrO hrj hbj hbz hS' hswj
          obtain ⟨W, rfl⟩ : ∃ W, W = w' := ⟨w', rfl⟩
          obtain ⟨A, hA1⟩ : ∃ A, (some ⟨q, o, none⟩ : Option Addr) = A := ⟨_, rfl⟩
          rw [hA1] at hsw ⊢
          clear hA1
          have hBx : Below W.heap.size W (W.alloc (.cells #[] 39)) := (Below.refl _ _).alloc (Nat.le_refl _) _
          have hown0 := Own.empty W W.heap.size 39 32 (Nat.le_refl _)
          have hlo : ∀ w0 : World, (slS 50 (.slice A n cap) none (some (.int .i64 m)) none).run Tryz.prog w0 = .ok (.slice A m cap) w0 := fun w0 => SlW.lo einfoId hsw hmO w0
          obtain ⟨Ah, ch, hhi, hhs, hhf⟩ := hsw.hi (P := Tryz.prog) einfoId (m := m) hmO
          have hslo : SlR (W.alloc (.cells #[] 39)) A m 32 ((O.map idC).take m) := (hsw.rd.below hBx).take_ hmO
          have hf1 := hsw.nil
          have hrone : ∀ r ∈ (O.map idC).take m, ∀ u ∈ r.toList, u.oneCell' = true := fun r hr => by obtain ⟨y', _, rfl⟩ := List.mem_map.1 (List.mem_of_mem_take hr); exact idC_one _
          have hrone2 : ∀ r ∈ (O.map idC).drop m, ∀ u ∈ r.toList, u.oneCell' = true := fun r hr => by obtain ⟨y', _, rfl⟩ := List.mem_map.1 (List.mem_of_mem_drop hr); exact idC_one _
          go_upto_region 7 with (at_builtin; refine L_appends einfoId rfl hown0 rfl hslo hf1 hrone (by omega) (by omega) (by simp) ?_; intro A2 cap2 w2 hown2 hk2 hsub2)
          simp only [Nat.zero_add, List.nil_append] at hown2
          have hwW : Below W.heap.size W w2 := hBx.trans (hk2.below (by simp) (by simp [blk]))
          have hrw2 : rowAt w2 gx (0) 32 = some (idC d) := (rowAt_of_block (hwW.block gx (rowAt_lt hrx)) _ _).trans hrx
          have hB3 : Below w2.heap.size w2 (w2.alloc (.cells (idC d) 39)) := (Below.refl _ _).alloc (Nat.le_refl _) _
          have hown3 := hown2.below hB3
          have hrow3 : rowAt (w2.alloc (.cells (idC d) 39)) w2.heap.size 0 32 = some (idC d) := by simp [go_sem]
          have hsz2 := hwW.size
          go_upto_region 8 with (at_builtin; refine L_append einfoId rfl hown3 rfl hrow3 (idC_one _) (by omega) (by omega) (by simp; omega) ?_; intro A4 cap4 w4 hown4 hk4 hsub4)
          have hwW4 : Below W.heap.size W w4 := (hwW.trans (hB3.mono hsz2)).trans (hk4.below (by simp; omega) (fun x hx => (hown2.at_base hx).1))
          have hs4 := hhs w4 (hsw.rd.below hwW4)
          have hsz4 := hwW4.size
          clear hown3 hrow3 hB3 hown0 hBx hslo hrw2 hlo
          go_upto_region 9 with (at_builtin; refine L_appends einfoId rfl hown4 rfl hs4 hhf hrone2 (by omega) (by omega) (by omega) ?_; intro A5 cap5 w5 hown5 hk5 hsub5)
          have hwW5 : Below W.heap.size W w5 := hwW4.trans (hk5.below (by omega) (fun x hx => (hown4.at_base hx).1))
          have hO5 : (O.map idC).take m ++ [idC d] ++ (O.map idC).drop m = (O.take m ++ d :: O.drop m).map idC := by simp [List.map_take, List.map_drop]
          rw [hO5] at hown5
          clear hown4 hown2 hO5 hs4 hhi hhs hrone hrone2 hf1
          have hL5 : (O.take m ++ d :: O.drop m).length = m + 1 + (n - m) := by simp [Hlen.out]; omega
          have hLn : (insC cmpId O d).length = m + 1 + (n - m) := by rw [Hat.out, hL5]
          rw [← Hat.out] at hown5
          have HLn := Lib.hid hLn
          have hBf := hBw.trans (hwW5.mono (by have := rowAt_lt hrx; omega))
          have hbase : ∀ x ∈ blk A5, w.heap.size ≤ x := fun x hx => by have h1 := (hown5.at_base hx).1; have h2 := hBw.size; have h3 := Hgx.out; omega
          have HB := Lib.hid hBf
          have Hbase := Lib.hid hbase
          have Hown5 := Lib.hid hown5
          clear hL5 hLn hBf hbase hown5
          go_wp2_with fail
          go_ret
          exact ⟨A5, cap5, by rw [HLn.out]; rfl, by rw [HLn.out]; exact Hown5.out.slw, fun x hx => .inr (Hbase.out x hx), by rw [Hgx.out]; exact HB.out⟩
      · have hd : decide (m < n) = false := by simpa using hmlt
        have hat := insC_at (c := cmpId) O d m (by rw [Hlen.out]; exact hmO) hlow.out (fun hk' => absurd (by rw [← Hlen.out]; exact hk') hmlt)
        have Hat := Lib.hid hat
        clear hat
        go_upto_region 4 with fail
        refine wp_region_lex (Bel wr) false (by kernel_rfl) (by kernel_rfl) (by kernel_rfl) (bel_drew wr) ?_
        have hne := bel_some wr
        have hS := bel_drew wr
        repeat (refine wpLx_loose ?_ ?_; (focus (simp only [chainOp]; done)); intro K hK; go_simp; refine hK _ ?_; clear hK K)
        refine wpLx_chain ?_ ?_ ?_
        focus (exact hS)
        focus (simp only [chainOp]; done)
        intro K hK
        go_simp
        refine hK _ _ ?_
        clear hK K
        repeat (refine wpLx_loose ?_ ?_; (focus (simp only [chainOp]; done)); intro K hK; go_simp; refine hK _ ?_; clear hK K)
        refine wpLx_nil ?_
        intro hS
        have hbz := hbj.drew
        have hsw := h1.below hbz
        have hrx : rowAt wr.drew gx 0 32 = some (idC d) := hrj
        have hBw : Below gx w wr.drew := hbb.trans (hbz.mono (by have := rowAt_lt hr1; omega))
        clear hne hS hbz hrj hbj hmlt hd hswj
        obtain ⟨W, hW⟩ : ∃ W, wr.drew = W := ⟨_, rfl⟩
        rw [hW] at hsw hBw hrx ⊢
        clear hW
        have hBx : Below W.heap.size W (W.alloc (.cells #[] 39)) := (Below.refl _ _).alloc (Nat.le_refl _) _
        have hown0 := Own.empty W W.heap.size 39 32 (Nat.le_refl _)
        have hlo : ∀ w0 : World, (slS 50 (.slice A n cap) none (some (.int .i64 m)) none).run Tryz.prog w0 = .ok (.slice A m cap) w0 := fun w0 => SlW.lo einfoId hsw hmO w0
        obtain ⟨Ah, ch, hhi, hhs, hhf⟩ := hsw.hi (P := Tryz.prog) einfoId (m := m) hmO
        have hslo : SlR (W.alloc (.cells #[] 39)) A m 32 ((O.map idC).take m) := (hsw.rd.below hBx).take_ hmO
        have hf1 := hsw.nil
        have hrone : ∀ r ∈ (O.map idC).take m, ∀ u ∈ r.toList, u.oneCell' = true := fun r hr => by obtain ⟨y', _, rfl⟩ := List.mem_map.1 (List.mem_of_mem_take hr); exact idC_one _
        have hrone2 : ∀ r ∈ (O.map idC).drop m, ∀ u ∈ r.toList, u.oneCell' = true := fun r hr => by obtain ⟨y', _, rfl⟩ := List.mem_map.1 (List.mem_of_mem_drop hr); exact idC_one _
        go_upto_region 7 with (at_builtin; refine L_appends einfoId rfl hown0 rfl hslo hf1 hrone (by omega) (by omega) (by simp) ?_; intro A2 cap2 w2 hown2 hk2 hsub2)
        simp only [Nat.zero_add, List.nil_append] at hown2
        have hwW : Below W.heap.size W w2 := hBx.trans (hk2.below (by simp) (by simp [blk]))
        have hrw2 : rowAt w2 gx (0) 32 = some (idC d) := (rowAt_of_block (hwW.block gx (rowAt_lt hrx)) _ _).trans hrx
        have hB3 : Below w2.heap.size w2 (w2.alloc (.cells (idC d) 39)) := (Below.refl _ _).alloc (Nat.le_refl _) _
        have hown3 := hown2.below hB3
        have hrow3 : rowAt (w2.alloc (.cells (idC d) 39)) w2.heap.size 0 32 = some (idC d) := by simp [go_sem]
        have hsz2 := hwW.size
        go_upto_region 8 with (at_builtin; refine L_append einfoId rfl hown3 rfl hrow3 (idC_one _) (by omega) (by omega) (by simp; omega) ?_; intro A4 cap4 w4 hown4 hk4 hsub4)
        have hwW4 : Below W.heap.size W w4 := (hwW.trans (hB3.mono hsz2)).trans (hk4.below (by simp; omega) (fun x hx => (hown2.at_base hx).1))
        have hs4 := hhs w4 (hsw.rd.below hwW4)
        have hsz4 := hwW4.size
        clear hown3 hrow3 hB3 hown0 hBx hslo hrw2 hlo
        go_upto_region 9 with (at_builtin; refine L_appends einfoId rfl hown4 rfl hs4 hhf hrone2 (by omega) (by omega) (by omega) ?_; intro A5 cap5 w5 hown5 hk5 hsub5)
        have hwW5 : Below W.heap.size W w5 := hwW4.trans (hk5.below (by omega) (fun x hx => (hown4.at_base hx).1))
        have hO5 : (O.map idC).take m ++ [idC d] ++ (O.map idC).drop m = (O.take m ++ d :: O.drop m).map idC := by simp [List.map_take, List.map_drop]
        rw [hO5] at hown5
        clear hown4 hown2 hO5 hs4 hhi hhs hrone hrone2 hf1
        have hL5 : (O.take m ++ d :: O.drop m).length = m + 1 + (n - m) := by simp [Hlen.out]; omega
        have hLn : (insC cmpId O d).length = m + 1 + (n - m) := by rw [Hat.out, hL5]
        rw [← Hat.out] at hown5
        have HLn := Lib.hid hLn
        have hBf := hBw.trans (hwW5.mono (by have := rowAt_lt hrx; omega))
        have hbase : ∀ x ∈ blk A5, w.heap.size ≤ x := fun x hx => by have h1 := (hown5.at_base hx).1; have h2 := hBw.size; have h3 := Hgx.out; omega
        have HB := Lib.hid hBf
        have Hbase := Lib.hid hbase
        have Hown5 := Lib.hid hown5
        clear hL5 hLn hBf hbase hown5
        go_wp2_with fail
        go_ret
        exact ⟨A5, cap5, by rw [HLn.out]; rfl, by rw [HLn.out]; exact Hown5.out.slw, fun x hx => .inr (Hbase.out x hx), by rw [Hgx.out]; exact HB.out⟩

/-- Ids put into a set, one by one. -/
theorem insC_len1 (O : List Id32) (d : Id32) : (insC cmpId O d).length ≤ O.length + 1 := insC_length O d
theorem foldl_insLen (L : List Id32) : ∀ O : List Id32, (L.foldl (insC cmpId) O).length ≤ O.length + L.length := by
  induction L with
  | nil => intro O; simp
  | cons x L ih => intro O; have h1 := ih (insC cmpId O x); have h2 := insC_length (c := cmpId) O x; simp only [List.foldl_cons, List.length_cons]; omega

set_option maxHeartbeats 1000000 in
theorem rset (w : World) (A : Option Addr) (n cap : Nat) (R : List Id32) (h : TagsIn w A n R) (hn : n ≤ 1000000) :
    Calls Tryz.prog 165 #[.slice A n cap] w fun e w' => ∃ A' cap', e = .returned (.slice A' (sortC cmpId R).length cap') ∧ IdsW w' A' (sortC cmpId R).length cap' (sortC cmpId R) ∧ (∀ x ∈ blk A', w.heap.size ≤ x) ∧ Below w.heap.size w w' := by
  have hlen := h.len
  have Hlen := Lib.hid hlen
  clear hlen
  go_enter Tryz.func165, Tryz.ntmps165
  go_wp2_with fail
  go_loopw [3, 4] (fun out i wr => ∃ (k : Nat) (A1 : Option Addr) (n1 cap1 : Nat) (O : List Id32), k ≤ n ∧ i = .int .i64 k ∧ out = .slice A1 n1 cap1 ∧ Hid (O = sortC cmpId (R.take k)) ∧ IdsW wr A1 n1 cap1 O ∧ (∀ x ∈ blk A1, w.heap.size ≤ x) ∧ Below w.heap.size w wr) (fun _ i _ => n - (intOf i).toNat)
  case atStart => exact ⟨0, none, 0, 0, [], Nat.zero_le _, rfl, rfl, rfl, SlW.none_, by simp [blk], Below.refl _ _⟩
  case round =>
    obtain ⟨k, A1, n1, cap1, O, hk, rfl, rfl, hO, hsw, hbs, hb⟩ := hrel
    have hn1 : O.length = n1 := by simpa using hsw.len
    by_cases hlt : k < n
    · obtain ⟨q, o, rfl, hr⟩ := TagsIn.get (SlR.below h hb) hlt (by rw [Hlen.out]; exact hlt)
      have htk : sortC cmpId (R.take (k + 1)) = insC cmpId O (R[k]'(by rw [Hlen.out]; exact hlt)) := by
        rw [List.take_add_one, List.getElem?_eq_getElem (by rw [Hlen.out]; exact hlt), Option.toList_some, sortC_snoc, hO.out]
      have hol : n1 ≤ 1000000 := by have := sortC_length (c := cmpId) (R.take k); rw [← hO.out] at this; simp at this; have := Hlen.out; omega
      have hris : Ris cmpId O := by rw [hO.out]; exact ris_sortC totId _
      obtain ⟨d, hd⟩ : ∃ d, R[k]'(by rw [Hlen.out]; exact hlt) = d := ⟨_, rfl⟩
      rw [hd] at hr htk
      have Htk := Lib.hid htk
      have Hol := Lib.hid hol
      have Hris := Lib.hid hris
      clear hd htk hn1 hol hris
      have c1 := rwith wr A1 n1 cap1 O d hsw Hol.out Hris.out
      go_wp2_with fail
      refine c1.mono ?_; rintro e w1 ⟨A2, cap2, rfl, hsw2, hsub2, hb1⟩
      have hbb := hb.trans (hb1.mono hb.size)
      have hsz := hb.size
      clear c1
      go_wp2_with fail
      go_roundw
      case rel => exact ⟨k + 1, A2, _, cap2, _, by omega, by go_num, rfl, (show _ = _ from Htk.out.symm), hsw2, fun x hx => (hsub2 x hx).elim (hbs x) (fun h => by omega), hbb⟩
      case measure => simp [intOf]; omega
    · have e : R.take k = R := List.take_of_length_le (by rw [Hlen.out]; omega)
      have hO' := hO.out
      rw [e] at hO'
      subst hO'
      subst hn1
      clear hO e
      go_wp2_with fail
      go_ret
      exact ⟨A1, cap1, rfl, hsw, hbs, hb⟩

set_option maxHeartbeats 1000000 in
theorem rboth (w : World) (A B : Option Addr) (n m cap cap' : Nat) (X Y : List Id32) (hx : TagsIn w A n X) (hy : TagsIn w B m Y) (hn : n ≤ 500000) (hm : m ≤ 500000) :
    Calls Tryz.prog 216 #[.slice A n cap, .slice B m cap'] w fun e w' => ∃ A' cap', e = .returned (.slice A' (sortC cmpId (X ++ Y)).length cap') ∧ IdsW w' A' (sortC cmpId (X ++ Y)).length cap' (sortC cmpId (X ++ Y)) ∧ (∀ x ∈ blk A', w.heap.size ≤ x) ∧ Below w.heap.size w w' := by
  have hlx := hx.len
  have hlen := hy.len
  have hXl := sortC_length (c := cmpId) X
  rw [hlx] at hXl
  have Hlen := Lib.hid hlen
  have Hlx := Lib.hid hlx
  clear hlen hlx
  have c0 := rset w A n cap X hx (by omega)
  go_enter Tryz.func216, Tryz.ntmps216
  go_wp2_with fail
  refine c0.mono ?_; rintro e w1 ⟨A1, cap1, rfl, hs1, hbs1, hb1⟩
  clear c0
  go_wp2_with fail
  go_loopw [5, 6] (fun out i wr => ∃ (k : Nat) (A2 : Option Addr) (n2 cap2 : Nat) (O : List Id32), k ≤ m ∧ i = .int .i64 k ∧ out = .slice A2 n2 cap2 ∧ Hid (O = sortC cmpId (X ++ Y.take k)) ∧ IdsW wr A2 n2 cap2 O ∧ (∀ x ∈ blk A2, w.heap.size ≤ x) ∧ Below w.heap.size w wr) (fun _ i _ => m - (intOf i).toNat)
  case atStart => exact ⟨0, A1, _, cap1, _, Nat.zero_le _, rfl, rfl, (show _ = _ by simp), hs1, hbs1, hb1⟩
  case round =>
    obtain ⟨k, A2, n2, cap2, O, hk, rfl, rfl, hO, hsw, hbs, hb⟩ := hrel
    have hn1 : O.length = n2 := by simpa using hsw.len
    by_cases hlt : k < m
    · obtain ⟨q, o, rfl, hr⟩ := TagsIn.get (SlR.below hy hb) hlt (by rw [Hlen.out]; exact hlt)
      have htk : sortC cmpId (X ++ Y.take (k + 1)) = insC cmpId O (Y[k]'(by rw [Hlen.out]; exact hlt)) := by
        rw [List.take_add_one, List.getElem?_eq_getElem (by rw [Hlen.out]; exact hlt), Option.toList_some, ← List.append_assoc, sortC_snoc, hO.out]
      have hol : n2 ≤ 1000000 := by have := sortC_length (c := cmpId) (X ++ Y.take k); rw [← hO.out] at this; simp at this; have := Hlen.out; have := Hlx.out; omega
      have hris : Ris cmpId O := by rw [hO.out]; exact ris_sortC totId _
      obtain ⟨d, hd⟩ : ∃ d, Y[k]'(by rw [Hlen.out]; exact hlt) = d := ⟨_, rfl⟩
      rw [hd] at hr htk
      have Htk := Lib.hid htk
      have Hol := Lib.hid hol
      have Hris := Lib.hid hris
      clear hd htk hn1 hol hris
      have c1 := rwith wr A2 n2 cap2 O d hsw Hol.out Hris.out
      go_wp2_with fail
      refine c1.mono ?_; rintro e w2 ⟨A3, cap3, rfl, hsw2, hsub2, hb2⟩
      have hbb := hb.trans (hb2.mono hb.size)
      have hsz := hb.size
      clear c1
      go_wp2_with fail
      go_roundw
      case rel => exact ⟨k + 1, A3, _, cap3, _, by omega, by go_num, rfl, (show _ = _ from Htk.out.symm), hsw2, fun x hx => (hsub2 x hx).elim (hbs x) (fun h => by omega), hbb⟩
      case measure => simp [intOf]; omega
    · have e : Y.take k = Y := List.take_of_length_le (by rw [Hlen.out]; omega)
      have hO' := hO.out
      rw [e] at hO'
      subst hO'
      subst hn1
      clear hO e
      go_wp2_with fail
      go_ret
      exact ⟨A2, cap2, rfl, hsw, hbs, hb⟩

end Go.Proofs.YtgfpjjppeldhbaaGreatDoor

/- The reference of operations (petrelref07): has, Belongs. -/
namespace Go.Proofs.YtgfpjjppeldhbaaGreatDoor
open Go.RowKit

def hasS (k : Nat) : ByteArray := if k = 1 then ⟨#[78]⟩ else if k = 2 then ⟨#[86]⟩ else if k = 3 then ⟨#[86, 83]⟩ else if k = 4 then ⟨#[75, 86, 78]⟩ else if k = 5 then ⟨#[75, 86, 83]⟩ else if k = 6 then ⟨#[82, 86]⟩ else if k = 7 then ⟨#[82]⟩ else ⟨#[]⟩
theorem rop_has (k : Nat) (w : World) (hk : k ≤ 9223372036854775807) : Calls Tryz.prog 66 #[.int .i64 k] w fun e w' => e = .returned (.string (hasS k)) ∧ w = w' := by
  by_cases h : k ≤ 7
  · have h8 : k = 0 ∨ k = 1 ∨ k = 2 ∨ k = 3 ∨ k = 4 ∨ k = 5 ∨ k = 6 ∨ k = 7 := by omega
    rcases h8 with rfl | rfl | rfl | rfl | rfl | rfl | rfl | rfl
    all_goals
      go_enter Tryz.func66, Tryz.ntmps66
      go_wp2_with fail
      go_ret
      exact ⟨rfl, rfl⟩
  · have hs : hasS k = ⟨#[]⟩ := by unfold hasS; rw [if_neg (by omega), if_neg (by omega), if_neg (by omega), if_neg (by omega), if_neg (by omega), if_neg (by omega), if_neg (by omega)]
    have Hs := Lib.hid hs
    have h1 : ((k : Int) == 1) = false := by simp; omega
    have h2 : ((k : Int) == 2) = false := by simp; omega
    have h3 : ((k : Int) == 3) = false := by simp; omega
    have h4 : ((k : Int) == 4) = false := by simp; omega
    have h5 : ((k : Int) == 5) = false := by simp; omega
    have h6 : ((k : Int) == 6) = false := by simp; omega
    have h7 : ((k : Int) == 7) = false := by simp; omega
    clear hs h
    go_enter Tryz.func66, Tryz.ntmps66
    go_wp2_with fail
    go_ret
    exact ⟨by rw [Hs.out]; rfl, rfl⟩
theorem rop_belongs (k : Nat) (w : World) (hk : k ≤ 9223372036854775807) : Calls Tryz.prog 28 #[.int .i64 k] w fun e w' => e = .returned (.int .i64 (belongs k)) ∧ w = w' := by
  have hb : belongs k = if k = 1 then 1 else if k = 2 ∨ k = 3 then 2 else if k = 4 then 3 else if k = 5 then 4 else if k = 6 ∨ k = 7 then 5 else 0 := rfl
  have Hb := Lib.hid hb
  clear hb
  go_enter Tryz.func28, Tryz.ntmps28
  go_wp2_with fail
  all_goals
    go_ret
    exact ⟨ret_int (by rw [Hb.out]; simp at *; omega), rfl⟩

end Go.Proofs.YtgfpjjppeldhbaaGreatDoor

/- The reference of operations (petrelref07): in. -/
namespace Go.Proofs.YtgfpjjppeldhbaaGreatDoor
open Go.RowKit

def inB (s : ByteArray) (c : Int) : Bool := s.data.toList.any fun b => ((b.toNat : Int) == c)
theorem rop_in (s : ByteArray) (c : Int) (w : World) (hs : s.size ≤ 9223372036854775807) : Calls Tryz.prog 144 #[.string s, .int .u8 c] w fun e w' => e = .returned (.bool (inB s c)) ∧ w = w' := by
  have hlen : s.data.toList.length = s.size := Array.length_toList
  have hin : inB s c = (s.data.toList.drop 0).any fun b => ((b.toNat : Int) == c) := rfl
  have Hin := Lib.hid hin
  clear hin
  go_enter Tryz.func144, Tryz.ntmps144
  go_wp2_with fail
  go_loopw [5] (fun i wr => ∃ k : Nat, k ≤ s.size ∧ i = .int .i64 k ∧ wr = w ∧ Hid (inB s c = (s.data.toList.drop k).any fun b => ((b.toNat : Int) == c))) (fun i _ => s.size - (intOf i).toNat)
  case atStart => exact ⟨0, Nat.zero_le _, rfl, rfl, Hin⟩
  case round =>
    obtain ⟨k, hk, rfl, rfl, hd⟩ := hrel
    by_cases hlt : k < s.size
    · have hg : s.data.toList.drop k = s[k]'hlt :: s.data.toList.drop (k + 1) := by
        rw [List.drop_eq_getElem_cons (show k < s.data.toList.length by rw [hlen]; exact hlt)]; rfl
      have hd2 := hd.out
      rw [hg, List.any_cons] at hd2
      obtain ⟨b, hb⟩ : ∃ b, s[k]'hlt = b := ⟨_, rfl⟩
      rw [hb] at hd2
      cases hc : ((b.toNat : Int) == c) with
      | true =>
        rw [hc, Bool.true_or] at hd2
        have Hd := Lib.hid hd2
        clear hd hd2 hg
        go_wp2_with fail
        go_ret
        exact ⟨ret_bool (by rw [Hd.out]), rfl⟩
      | false =>
        rw [hc, Bool.false_or] at hd2
        have Hd := Lib.hid hd2
        clear hd hd2 hg
        go_wp2_with fail
        go_roundw
        case rel => exact ⟨k + 1, by omega, by go_num, trivial, Hd⟩
        case measure => simp [intOf]; omega
    · have hd2 := hd.out
      rw [List.drop_eq_nil_of_le (by rw [hlen]; omega)] at hd2
      have Hd := Lib.hid hd2
      clear hd hd2
      go_wp2_with fail
      go_ret
      exact ⟨ret_bool (by rw [Hd.out]; rfl), rfl⟩

end Go.Proofs.YtgfpjjppeldhbaaGreatDoor

/- The reference Same (petrelref06): are two lists of ids one? -/
namespace Go.Proofs.YtgfpjjppeldhbaaGreatDoor
open Go.RowKit

set_option maxHeartbeats 1000000 in
theorem rsame_ids (w : World) (A B : Option Addr) (n m cap cap' : Nat) (X Y : List Id32) (hx : TagsIn w A n X) (hy : TagsIn w B m Y) (hn : n ≤ 1000000) (hm : m ≤ 1000000) :
    Calls Tryz.prog 32 #[.slice A n cap, .slice B m cap'] w fun e w' => e = .returned (.bool (decide (X = Y))) ∧ Below w.heap.size w w' := by
  have hlx := hx.len
  have hly := hy.len
  have Hlx := Lib.hid hlx; have Hly := Lib.hid hly
  by_cases hnm : n = m
  · subst hnm
    clear hlx hly
    go_enter Tryz.func32, Tryz.ntmps32
    go_wp2_with fail
    go_loopw [5] (fun i wr => ∃ k : Nat, k ≤ n ∧ i = .int .i64 k ∧ Hid (X.take k = Y.take k) ∧ Below w.heap.size w wr) (fun i _ => n - (intOf i).toNat)
    case atStart => exact ⟨0, Nat.zero_le _, rfl, rfl, Below.refl _ _⟩
    case round =>
      obtain ⟨k, hk, rfl, heq, hb⟩ := hrel
      by_cases hlt : k < n
      · obtain ⟨q, o, rfl, hr⟩ := TagsIn.get (SlR.below hx hb) hlt (by rw [Hlx.out]; exact hlt)
        obtain ⟨q2, o2, rfl, hr2⟩ := TagsIn.get (SlR.below hy hb) hlt (by rw [Hly.out]; exact hlt)
        have hX : X.take (k + 1) = X.take k ++ [X[k]'(by rw [Hlx.out]; exact hlt)] := by rw [List.take_add_one, List.getElem?_eq_getElem (by rw [Hlx.out]; exact hlt)]; rfl
        have hY : Y.take (k + 1) = Y.take k ++ [Y[k]'(by rw [Hly.out]; exact hlt)] := by rw [List.take_add_one, List.getElem?_eq_getElem (by rw [Hly.out]; exact hlt)]; rfl
        obtain ⟨x, hx'⟩ : ∃ x, X[k]'(by rw [Hlx.out]; exact hlt) = x := ⟨_, rfl⟩
        obtain ⟨y, hy'⟩ : ∃ y, Y[k]'(by rw [Hly.out]; exact hlt) = y := ⟨_, rfl⟩
        rw [hx'] at hr hX
        rw [hy'] at hr2 hY
        have HX := Lib.hid hX; have HY := Lib.hid hY
        clear hX hY
        have HX' := Lib.hid hx'; have HY' := Lib.hid hy'
        clear hx' hy'
        go_upto_region 6 with fail
        refine wp_region_lex (Bel wr) false (by kernel_rfl) (by kernel_rfl) (by kernel_rfl) (bel_drew wr) ?_
        have hne := bel_some wr
        have hS := bel_drew wr
        have b1 := sub_row hr; have b2 := sub_row hr2
        repeat (refine wpLx_loose ?_ ?_; (focus (simp only [chainOp]; done)); intro K hK; go_simp; refine hK _ ?_; clear hK K)
        refine wpLx_nil ?_
        intro hS
        clear hne hS b1 b2 hr hr2
        have hb' : Below w.heap.size w wr.drew := hb.drew
        cases hpe : (x == y) with
        | true =>
          have e := beq_iff_eq.1 hpe
          have E := Lib.hid e
          clear e
          go_wp2_with fail
          go_roundw
          case rel => exact ⟨k + 1, by omega, by go_num, (show X.take (k + 1) = Y.take (k + 1) by rw [HX.out, HY.out, heq.out, E.out]), hb'⟩
          case measure => simp [intOf]; omega
        | false =>
          have hne : X ≠ Y := by
            intro e
            subst e
            have : x = y := HX'.out.symm.trans HY'.out
            rw [beq_iff_eq.2 this] at hpe
            cases hpe
          have hd := Lib.hid (decide_eq_false hne)
          clear hne
          go_wp2_with fail
          go_ret
          exact ⟨ret_bool (by rw [hd.out]), hb'⟩
      · have hkn : k = n := by omega
        have e : X = Y := by
          have := heq.out
          rwa [List.take_of_length_le (by rw [Hlx.out]; omega), List.take_of_length_le (by rw [Hly.out]; omega)] at this
        have E := Lib.hid (decide_eq_true e)
        clear e hkn
        go_wp2_with fail
        go_ret
        exact ⟨ret_bool (by rw [E.out]), hb⟩
  · have hne : X ≠ Y := by intro e; subst e; exact hnm (hlx.symm.trans hly)
    have hd := Lib.hid (decide_eq_false hne)
    have hnm2 : (n == m) = false := by simpa using hnm
    have hnm3 : ((n : Int) == (m : Int)) = false := by rw [beq_eq_false_iff_ne]; omega
    clear hlx hly hne
    go_enter Tryz.func32, Tryz.ntmps32
    go_wp2_with fail
    go_ret
    exact ⟨ret_bool (by rw [hd.out]), Below.refl _ _⟩

end Go.Proofs.YtgfpjjppeldhbaaGreatDoor

/- The reference of operations (petrelref07): Check; Is of petrelref06. -/
namespace Go.Proofs.YtgfpjjppeldhbaaGreatDoor
open Go.RowKit

theorem ris_sort (R : List Id32) : decide (R = sortC cmpId R) = risI R := by
  rw [Bool.eq_iff_iff, decide_eq_true_eq, risI_ok]
  exact ⟨fun h => by rw [h]; exact ris_sortC totId R, fun h => (sortC_ris totId h).symm⟩
theorem ris6 (w : World) (A : Option Addr) (n cap : Nat) (R : List Id32) (h : TagsIn w A n R) (hn : n ≤ 1000000) :
    Calls Tryz.prog 97 #[.slice A n cap] w fun e w' => e = .returned (.bool (risI R)) ∧ Below w.heap.size w w' := by
  have hlen := h.len
  have hsl := sortC_length (c := cmpId) R
  rw [hlen] at hsl
  have c1 := rset w A n cap R h hn
  have c2 := fun w1 (hb : Below w.heap.size w w1) A' cap' (hs : IdsW w1 A' (sortC cmpId R).length cap' (sortC cmpId R)) => rsame_ids w1 A A' n (sortC cmpId R).length cap cap' R (sortC cmpId R) (SlR.below h hb) hs.rd hn (by omega)
  have Hs := Lib.hid (ris_sort R)
  clear hlen hsl
  go_enter Tryz.func97, Tryz.ntmps97
  go_wp2_with fail
  refine c1.mono ?_; rintro e w1 ⟨A', cap', rfl, hs, _, hb1⟩
  go_wp2_with fail
  refine (c2 w1 hb1 A' cap' hs).mono ?_; rintro e w2 ⟨rfl, hb2⟩
  go_wp2_with fail
  go_ret
  exact ⟨ret_bool (by rw [Hs.out]), bel2 hb1 hb2⟩

theorem emptyS : (⟨#[]⟩ : ByteArray).size = 0 := rfl
set_option maxRecDepth 100000 in
set_option maxHeartbeats 4000000 in
theorem rop_check (o : OpV) (A : Option Addr) (c : Nat) (w : World) (h : plainO o) (hT : TagsIn w A o.refs.length o.refs) (hl : o.refs.length ≤ 1000000) (hks : o.key.size ≤ 9223372036854775807) (hvs : o.val.size ≤ 9223372036854775807) :
    Calls Tryz.prog 70 #[.agg (opC o A c)] w fun e w' => e = .returned (.int .i64 (chkN o)) ∧ Below w.heap.size w w' := by
  have hT0 : TagsIn (w.alloc (.cells (opC o A c) 52)) A o.refs.length o.refs := SlR.below hT ((Below.refl _ _).alloc (Nat.le_refl _) _)
  have hck : chkN o = if 16 < o.key.size ∨ 16 < o.val.size then 3 else if numO o = false then 5 else if 8 < o.refs.length then 6 else if risI o.refs = false then 4 else 0 := rfl
  have hno : numO o = (!(decide (o.k = 4) && decide (o.n < 0)) && (decide (o.n < 2147483648) && decide (-2147483648 ≤ o.n))) := rfl
  obtain ⟨rb, hrb⟩ : ∃ rb, risI o.refs = rb := ⟨_, rfl⟩
  rw [hrb] at hck
  rw [hno] at hck
  obtain ⟨k, n, key, val, ref, refs⟩ := o
  unfold opC at hT0 ⊢
  unfold plainO at h
  dsimp only at *
  have Hck := Lib.hid hck
  have Hrb := Lib.hid hrb
  clear hck hno hrb hT
  rcases h with ⟨rfl, rfl, rfl, rfl, rfl⟩ | ⟨rfl, rfl, rfl, rfl, rfl⟩ | ⟨rfl, rfl, rfl, rfl⟩ | ⟨rfl, rfl, rfl⟩ | ⟨rfl, rfl, rfl⟩ | ⟨rfl, rfl, rfl, rfl⟩ | ⟨rfl, rfl, rfl, rfl, rfl⟩
  · show Calls Tryz.prog 70 #[.agg (opPC ⟨1, n, ⟨#[]⟩, ⟨#[]⟩, id0, .slice A 0 c⟩)] w _
    change TagsIn (w.alloc (.cells (opPC ⟨1, n, ⟨#[]⟩, ⟨#[]⟩, id0, .slice A 0 c⟩) 52)) A 0 [] at hT0
    have hB : Below w.heap.size w (w.alloc (.cells (opPC ⟨1, n, ⟨#[]⟩, ⟨#[]⟩, id0, .slice A 0 c⟩) 52)) := (Below.refl _ _).alloc (Nat.le_refl _) _
    have hr : rowAt (w.alloc (.cells (opPC ⟨1, n, ⟨#[]⟩, ⟨#[]⟩, id0, .slice A 0 c⟩) 52)) w.heap.size 0 37 = some (opPC ⟨1, n, ⟨#[]⟩, ⟨#[]⟩, id0, .slice A 0 c⟩) := by simp [go_sem]
    have x0 := rowAt_cell hr (j := 0) (by omega); have x1 := rowAt_cell hr (j := 1) (by omega); have x2 := rowAt_cell hr (j := 2) (by omega); have x3 := rowAt_cell hr (j := 3) (by omega); have x5 := rowAt_cell hr (j := 36) (by omega)
    have x4 := rowAt_sub hr (j := 4) (m := 32) (by omega)
    simp only [opPC_g0, opPC_g1, opPC_g2, opPC_g3, opPC_g36, opPC_e4, Nat.zero_add] at x0 x1 x2 x3 x4 x5
    have c1 := rop_has 1 (w.alloc (.cells (opPC ⟨1, n, ⟨#[]⟩, ⟨#[]⟩, id0, .slice A 0 c⟩) 52)) (by omega)
    have i1 := rop_in (hasS 1) 78 (w.alloc (.cells (opPC ⟨1, n, ⟨#[]⟩, ⟨#[]⟩, id0, .slice A 0 c⟩) 52)) (by decide)
    have i2 := rop_in (hasS 1) 75 (w.alloc (.cells (opPC ⟨1, n, ⟨#[]⟩, ⟨#[]⟩, id0, .slice A 0 c⟩) 52)) (by decide)
    have i3 := rop_in (hasS 1) 86 (w.alloc (.cells (opPC ⟨1, n, ⟨#[]⟩, ⟨#[]⟩, id0, .slice A 0 c⟩) 52)) (by decide)
    have i4 := rop_in (hasS 1) 82 (w.alloc (.cells (opPC ⟨1, n, ⟨#[]⟩, ⟨#[]⟩, id0, .slice A 0 c⟩) 52)) (by decide)
    have i5 := rop_in (hasS 1) 83 (w.alloc (.cells (opPC ⟨1, n, ⟨#[]⟩, ⟨#[]⟩, id0, .slice A 0 c⟩) 52)) (by decide)
    rw [show inB (hasS 1) 78 = true by decide +kernel] at i1
    rw [show inB (hasS 1) 75 = false by decide +kernel] at i2
    rw [show inB (hasS 1) 86 = false by decide +kernel] at i3
    rw [show inB (hasS 1) 82 = false by decide +kernel] at i4
    rw [show inB (hasS 1) 83 = false by decide +kernel] at i5
    rw [show hasS 1 = ⟨#[78]⟩ from rfl] at c1 i1 i2 i3 i4 i5
    clear hr
    go_enter Tryz.func70, Tryz.ntmps70
    go_upto_region 1 with fail
    obtain ⟨ga, hga⟩ : ∃ ga, w.heap.size = ga := ⟨_, rfl⟩
    have Hga := Lib.hid hga
    rw [hga] at x0 x1 x2 x3 x4 x5 hB ⊢
    obtain ⟨W, hW⟩ : ∃ W, W = w.alloc (.cells (opPC ⟨1, n, ⟨#[]⟩, ⟨#[]⟩, id0, .slice A 0 c⟩) 52) := ⟨_, rfl⟩
    rw [← hW] at x0 x1 x2 x3 x4 x5 hB c1 i1 i2 i3 i4 i5 hT0 ⊢
    clear hW hga
    go_wp2_with fail
    refine c1.mono ?_; rintro e w1 ⟨rfl, rfl⟩
    go_wp2_with fail
    refine i1.mono ?_; rintro e w1 ⟨rfl, rfl⟩
    go_wp2_with fail
    refine i2.mono ?_; rintro e w1 ⟨rfl, rfl⟩
    go_wp2_with fail
    refine i3.mono ?_; rintro e w1 ⟨rfl, rfl⟩
    go_wp2_with fail
    refine i4.mono ?_; rintro e w1 ⟨rfl, rfl⟩
    go_wp2_with fail
    refine i5.mono ?_; rintro e w1 ⟨rfl, rfl⟩
    clear c1 i1 i2 i3 i4 i5
    have cis := ris6 W A _ c _ hT0 hl
    rw [Hrb.out] at cis
    rw [← Hga.out] at hB
    go_wp2_with fail
    all_goals
      first
      | (go_ret; exact ⟨ret_int (by rw [Hck.out]; (try simp only [emptyS, List.length_nil] at *); (repeat' split) <;> (first | rfl | omega | (simp_all; done) | (simp_all; omega))), hB⟩)
      | (refine cis.mono ?_; rintro e w2 ⟨rfl, hb2⟩
         have hBB := bel2 hB hb2
         clear hT0 cis x0 x1 x2 x3 x4 x5 hb2
         cases rb <;> (go_wp2_with fail; go_ret; exact ⟨ret_int (by rw [Hck.out]; (try simp only [emptyS, List.length_nil] at *); (repeat' split) <;> (first | rfl | omega | (simp_all; done) | (simp_all; omega))), hBB⟩))
  · show Calls Tryz.prog 70 #[.agg (opPC ⟨2, 0, ⟨#[]⟩, val, id0, .slice A 0 c⟩)] w _
    change TagsIn (w.alloc (.cells (opPC ⟨2, 0, ⟨#[]⟩, val, id0, .slice A 0 c⟩) 52)) A 0 [] at hT0
    have hB : Below w.heap.size w (w.alloc (.cells (opPC ⟨2, 0, ⟨#[]⟩, val, id0, .slice A 0 c⟩) 52)) := (Below.refl _ _).alloc (Nat.le_refl _) _
    have hr : rowAt (w.alloc (.cells (opPC ⟨2, 0, ⟨#[]⟩, val, id0, .slice A 0 c⟩) 52)) w.heap.size 0 37 = some (opPC ⟨2, 0, ⟨#[]⟩, val, id0, .slice A 0 c⟩) := by simp [go_sem]
    have x0 := rowAt_cell hr (j := 0) (by omega); have x1 := rowAt_cell hr (j := 1) (by omega); have x2 := rowAt_cell hr (j := 2) (by omega); have x3 := rowAt_cell hr (j := 3) (by omega); have x5 := rowAt_cell hr (j := 36) (by omega)
    have x4 := rowAt_sub hr (j := 4) (m := 32) (by omega)
    simp only [opPC_g0, opPC_g1, opPC_g2, opPC_g3, opPC_g36, opPC_e4, Nat.zero_add] at x0 x1 x2 x3 x4 x5
    have c1 := rop_has 2 (w.alloc (.cells (opPC ⟨2, 0, ⟨#[]⟩, val, id0, .slice A 0 c⟩) 52)) (by omega)
    have i1 := rop_in (hasS 2) 78 (w.alloc (.cells (opPC ⟨2, 0, ⟨#[]⟩, val, id0, .slice A 0 c⟩) 52)) (by decide)
    have i2 := rop_in (hasS 2) 75 (w.alloc (.cells (opPC ⟨2, 0, ⟨#[]⟩, val, id0, .slice A 0 c⟩) 52)) (by decide)
    have i3 := rop_in (hasS 2) 86 (w.alloc (.cells (opPC ⟨2, 0, ⟨#[]⟩, val, id0, .slice A 0 c⟩) 52)) (by decide)
    have i4 := rop_in (hasS 2) 82 (w.alloc (.cells (opPC ⟨2, 0, ⟨#[]⟩, val, id0, .slice A 0 c⟩) 52)) (by decide)
    have i5 := rop_in (hasS 2) 83 (w.alloc (.cells (opPC ⟨2, 0, ⟨#[]⟩, val, id0, .slice A 0 c⟩) 52)) (by decide)
    rw [show inB (hasS 2) 78 = false by decide +kernel] at i1
    rw [show inB (hasS 2) 75 = false by decide +kernel] at i2
    rw [show inB (hasS 2) 86 = true by decide +kernel] at i3
    rw [show inB (hasS 2) 82 = false by decide +kernel] at i4
    rw [show inB (hasS 2) 83 = false by decide +kernel] at i5
    rw [show hasS 2 = ⟨#[86]⟩ from rfl] at c1 i1 i2 i3 i4 i5
    clear hr
    go_enter Tryz.func70, Tryz.ntmps70
    go_upto_region 1 with fail
    obtain ⟨ga, hga⟩ : ∃ ga, w.heap.size = ga := ⟨_, rfl⟩
    have Hga := Lib.hid hga
    rw [hga] at x0 x1 x2 x3 x4 x5 hB ⊢
    obtain ⟨W, hW⟩ : ∃ W, W = w.alloc (.cells (opPC ⟨2, 0, ⟨#[]⟩, val, id0, .slice A 0 c⟩) 52) := ⟨_, rfl⟩
    rw [← hW] at x0 x1 x2 x3 x4 x5 hB c1 i1 i2 i3 i4 i5 hT0 ⊢
    clear hW hga
    go_wp2_with fail
    refine c1.mono ?_; rintro e w1 ⟨rfl, rfl⟩
    go_wp2_with fail
    refine i1.mono ?_; rintro e w1 ⟨rfl, rfl⟩
    go_wp2_with fail
    refine i2.mono ?_; rintro e w1 ⟨rfl, rfl⟩
    go_wp2_with fail
    refine i3.mono ?_; rintro e w1 ⟨rfl, rfl⟩
    go_wp2_with fail
    refine i4.mono ?_; rintro e w1 ⟨rfl, rfl⟩
    go_wp2_with fail
    refine i5.mono ?_; rintro e w1 ⟨rfl, rfl⟩
    clear c1 i1 i2 i3 i4 i5
    have cis := ris6 W A _ c _ hT0 hl
    rw [Hrb.out] at cis
    rw [← Hga.out] at hB
    go_wp2_with fail
    all_goals
      first
      | (go_ret; exact ⟨ret_int (by rw [Hck.out]; (try simp only [emptyS, List.length_nil] at *); (repeat' split) <;> (first | rfl | omega | (simp_all; done) | (simp_all; omega))), hB⟩)
      | (refine cis.mono ?_; rintro e w2 ⟨rfl, hb2⟩
         have hBB := bel2 hB hb2
         clear hT0 cis x0 x1 x2 x3 x4 x5 hb2
         cases rb <;> (go_wp2_with fail; go_ret; exact ⟨ret_int (by rw [Hck.out]; (try simp only [emptyS, List.length_nil] at *); (repeat' split) <;> (first | rfl | omega | (simp_all; done) | (simp_all; omega))), hBB⟩))
  · show Calls Tryz.prog 70 #[.agg (opPC ⟨3, 0, ⟨#[]⟩, val, id0, .slice A refs.length c⟩)] w _
    change TagsIn (w.alloc (.cells (opPC ⟨3, 0, ⟨#[]⟩, val, id0, .slice A refs.length c⟩) 52)) A refs.length refs at hT0
    have hB : Below w.heap.size w (w.alloc (.cells (opPC ⟨3, 0, ⟨#[]⟩, val, id0, .slice A refs.length c⟩) 52)) := (Below.refl _ _).alloc (Nat.le_refl _) _
    have hr : rowAt (w.alloc (.cells (opPC ⟨3, 0, ⟨#[]⟩, val, id0, .slice A refs.length c⟩) 52)) w.heap.size 0 37 = some (opPC ⟨3, 0, ⟨#[]⟩, val, id0, .slice A refs.length c⟩) := by simp [go_sem]
    have x0 := rowAt_cell hr (j := 0) (by omega); have x1 := rowAt_cell hr (j := 1) (by omega); have x2 := rowAt_cell hr (j := 2) (by omega); have x3 := rowAt_cell hr (j := 3) (by omega); have x5 := rowAt_cell hr (j := 36) (by omega)
    have x4 := rowAt_sub hr (j := 4) (m := 32) (by omega)
    simp only [opPC_g0, opPC_g1, opPC_g2, opPC_g3, opPC_g36, opPC_e4, Nat.zero_add] at x0 x1 x2 x3 x4 x5
    have c1 := rop_has 3 (w.alloc (.cells (opPC ⟨3, 0, ⟨#[]⟩, val, id0, .slice A refs.length c⟩) 52)) (by omega)
    have i1 := rop_in (hasS 3) 78 (w.alloc (.cells (opPC ⟨3, 0, ⟨#[]⟩, val, id0, .slice A refs.length c⟩) 52)) (by decide)
    have i2 := rop_in (hasS 3) 75 (w.alloc (.cells (opPC ⟨3, 0, ⟨#[]⟩, val, id0, .slice A refs.length c⟩) 52)) (by decide)
    have i3 := rop_in (hasS 3) 86 (w.alloc (.cells (opPC ⟨3, 0, ⟨#[]⟩, val, id0, .slice A refs.length c⟩) 52)) (by decide)
    have i4 := rop_in (hasS 3) 82 (w.alloc (.cells (opPC ⟨3, 0, ⟨#[]⟩, val, id0, .slice A refs.length c⟩) 52)) (by decide)
    have i5 := rop_in (hasS 3) 83 (w.alloc (.cells (opPC ⟨3, 0, ⟨#[]⟩, val, id0, .slice A refs.length c⟩) 52)) (by decide)
    rw [show inB (hasS 3) 78 = false by decide +kernel] at i1
    rw [show inB (hasS 3) 75 = false by decide +kernel] at i2
    rw [show inB (hasS 3) 86 = true by decide +kernel] at i3
    rw [show inB (hasS 3) 82 = false by decide +kernel] at i4
    rw [show inB (hasS 3) 83 = true by decide +kernel] at i5
    rw [show hasS 3 = ⟨#[86, 83]⟩ from rfl] at c1 i1 i2 i3 i4 i5
    clear hr
    go_enter Tryz.func70, Tryz.ntmps70
    go_upto_region 1 with fail
    obtain ⟨ga, hga⟩ : ∃ ga, w.heap.size = ga := ⟨_, rfl⟩
    have Hga := Lib.hid hga
    rw [hga] at x0 x1 x2 x3 x4 x5 hB ⊢
    obtain ⟨W, hW⟩ : ∃ W, W = w.alloc (.cells (opPC ⟨3, 0, ⟨#[]⟩, val, id0, .slice A refs.length c⟩) 52) := ⟨_, rfl⟩
    rw [← hW] at x0 x1 x2 x3 x4 x5 hB c1 i1 i2 i3 i4 i5 hT0 ⊢
    clear hW hga
    go_wp2_with fail
    refine c1.mono ?_; rintro e w1 ⟨rfl, rfl⟩
    go_wp2_with fail
    refine i1.mono ?_; rintro e w1 ⟨rfl, rfl⟩
    go_wp2_with fail
    refine i2.mono ?_; rintro e w1 ⟨rfl, rfl⟩
    go_wp2_with fail
    refine i3.mono ?_; rintro e w1 ⟨rfl, rfl⟩
    go_wp2_with fail
    refine i4.mono ?_; rintro e w1 ⟨rfl, rfl⟩
    go_wp2_with fail
    refine i5.mono ?_; rintro e w1 ⟨rfl, rfl⟩
    clear c1 i1 i2 i3 i4 i5
    have cis := ris6 W A _ c _ hT0 hl
    rw [Hrb.out] at cis
    rw [← Hga.out] at hB
    go_wp2_with fail
    all_goals
      first
      | (go_ret; exact ⟨ret_int (by rw [Hck.out]; (try simp only [emptyS, List.length_nil] at *); (repeat' split) <;> (first | rfl | omega | (simp_all; done) | (simp_all; omega))), hB⟩)
      | (refine cis.mono ?_; rintro e w2 ⟨rfl, hb2⟩
         have hBB := bel2 hB hb2
         clear hT0 cis x0 x1 x2 x3 x4 x5 hb2
         cases rb <;> (go_wp2_with fail; go_ret; exact ⟨ret_int (by rw [Hck.out]; (try simp only [emptyS, List.length_nil] at *); (repeat' split) <;> (first | rfl | omega | (simp_all; done) | (simp_all; omega))), hBB⟩))
  · show Calls Tryz.prog 70 #[.agg (opPC ⟨4, n, key, val, id0, .slice A 0 c⟩)] w _
    change TagsIn (w.alloc (.cells (opPC ⟨4, n, key, val, id0, .slice A 0 c⟩) 52)) A 0 [] at hT0
    have hB : Below w.heap.size w (w.alloc (.cells (opPC ⟨4, n, key, val, id0, .slice A 0 c⟩) 52)) := (Below.refl _ _).alloc (Nat.le_refl _) _
    have hr : rowAt (w.alloc (.cells (opPC ⟨4, n, key, val, id0, .slice A 0 c⟩) 52)) w.heap.size 0 37 = some (opPC ⟨4, n, key, val, id0, .slice A 0 c⟩) := by simp [go_sem]
    have x0 := rowAt_cell hr (j := 0) (by omega); have x1 := rowAt_cell hr (j := 1) (by omega); have x2 := rowAt_cell hr (j := 2) (by omega); have x3 := rowAt_cell hr (j := 3) (by omega); have x5 := rowAt_cell hr (j := 36) (by omega)
    have x4 := rowAt_sub hr (j := 4) (m := 32) (by omega)
    simp only [opPC_g0, opPC_g1, opPC_g2, opPC_g3, opPC_g36, opPC_e4, Nat.zero_add] at x0 x1 x2 x3 x4 x5
    have c1 := rop_has 4 (w.alloc (.cells (opPC ⟨4, n, key, val, id0, .slice A 0 c⟩) 52)) (by omega)
    have i1 := rop_in (hasS 4) 78 (w.alloc (.cells (opPC ⟨4, n, key, val, id0, .slice A 0 c⟩) 52)) (by decide)
    have i2 := rop_in (hasS 4) 75 (w.alloc (.cells (opPC ⟨4, n, key, val, id0, .slice A 0 c⟩) 52)) (by decide)
    have i3 := rop_in (hasS 4) 86 (w.alloc (.cells (opPC ⟨4, n, key, val, id0, .slice A 0 c⟩) 52)) (by decide)
    have i4 := rop_in (hasS 4) 82 (w.alloc (.cells (opPC ⟨4, n, key, val, id0, .slice A 0 c⟩) 52)) (by decide)
    have i5 := rop_in (hasS 4) 83 (w.alloc (.cells (opPC ⟨4, n, key, val, id0, .slice A 0 c⟩) 52)) (by decide)
    rw [show inB (hasS 4) 78 = true by decide +kernel] at i1
    rw [show inB (hasS 4) 75 = true by decide +kernel] at i2
    rw [show inB (hasS 4) 86 = true by decide +kernel] at i3
    rw [show inB (hasS 4) 82 = false by decide +kernel] at i4
    rw [show inB (hasS 4) 83 = false by decide +kernel] at i5
    rw [show hasS 4 = ⟨#[75, 86, 78]⟩ from rfl] at c1 i1 i2 i3 i4 i5
    clear hr
    go_enter Tryz.func70, Tryz.ntmps70
    go_upto_region 1 with fail
    obtain ⟨ga, hga⟩ : ∃ ga, w.heap.size = ga := ⟨_, rfl⟩
    have Hga := Lib.hid hga
    rw [hga] at x0 x1 x2 x3 x4 x5 hB ⊢
    obtain ⟨W, hW⟩ : ∃ W, W = w.alloc (.cells (opPC ⟨4, n, key, val, id0, .slice A 0 c⟩) 52) := ⟨_, rfl⟩
    rw [← hW] at x0 x1 x2 x3 x4 x5 hB c1 i1 i2 i3 i4 i5 hT0 ⊢
    clear hW hga
    go_wp2_with fail
    refine c1.mono ?_; rintro e w1 ⟨rfl, rfl⟩
    go_wp2_with fail
    refine i1.mono ?_; rintro e w1 ⟨rfl, rfl⟩
    go_wp2_with fail
    refine i2.mono ?_; rintro e w1 ⟨rfl, rfl⟩
    go_wp2_with fail
    refine i3.mono ?_; rintro e w1 ⟨rfl, rfl⟩
    go_wp2_with fail
    refine i4.mono ?_; rintro e w1 ⟨rfl, rfl⟩
    go_wp2_with fail
    refine i5.mono ?_; rintro e w1 ⟨rfl, rfl⟩
    clear c1 i1 i2 i3 i4 i5
    have cis := ris6 W A _ c _ hT0 hl
    rw [Hrb.out] at cis
    rw [← Hga.out] at hB
    go_wp2_with fail
    all_goals
      first
      | (go_ret; exact ⟨ret_int (by rw [Hck.out]; (try simp only [emptyS, List.length_nil] at *); (repeat' split) <;> (first | rfl | omega | (simp_all; done) | (simp_all; omega))), hB⟩)
      | (refine cis.mono ?_; rintro e w2 ⟨rfl, hb2⟩
         have hBB := bel2 hB hb2
         clear hT0 cis x0 x1 x2 x3 x4 x5 hb2
         cases rb <;> (go_wp2_with fail; go_ret; exact ⟨ret_int (by rw [Hck.out]; (try simp only [emptyS, List.length_nil] at *); (repeat' split) <;> (first | rfl | omega | (simp_all; done) | (simp_all; omega))), hBB⟩))
  · show Calls Tryz.prog 70 #[.agg (opPC ⟨5, 0, key, val, id0, .slice A refs.length c⟩)] w _
    change TagsIn (w.alloc (.cells (opPC ⟨5, 0, key, val, id0, .slice A refs.length c⟩) 52)) A refs.length refs at hT0
    have hB : Below w.heap.size w (w.alloc (.cells (opPC ⟨5, 0, key, val, id0, .slice A refs.length c⟩) 52)) := (Below.refl _ _).alloc (Nat.le_refl _) _
    have hr : rowAt (w.alloc (.cells (opPC ⟨5, 0, key, val, id0, .slice A refs.length c⟩) 52)) w.heap.size 0 37 = some (opPC ⟨5, 0, key, val, id0, .slice A refs.length c⟩) := by simp [go_sem]
    have x0 := rowAt_cell hr (j := 0) (by omega); have x1 := rowAt_cell hr (j := 1) (by omega); have x2 := rowAt_cell hr (j := 2) (by omega); have x3 := rowAt_cell hr (j := 3) (by omega); have x5 := rowAt_cell hr (j := 36) (by omega)
    have x4 := rowAt_sub hr (j := 4) (m := 32) (by omega)
    simp only [opPC_g0, opPC_g1, opPC_g2, opPC_g3, opPC_g36, opPC_e4, Nat.zero_add] at x0 x1 x2 x3 x4 x5
    have c1 := rop_has 5 (w.alloc (.cells (opPC ⟨5, 0, key, val, id0, .slice A refs.length c⟩) 52)) (by omega)
    have i1 := rop_in (hasS 5) 78 (w.alloc (.cells (opPC ⟨5, 0, key, val, id0, .slice A refs.length c⟩) 52)) (by decide)
    have i2 := rop_in (hasS 5) 75 (w.alloc (.cells (opPC ⟨5, 0, key, val, id0, .slice A refs.length c⟩) 52)) (by decide)
    have i3 := rop_in (hasS 5) 86 (w.alloc (.cells (opPC ⟨5, 0, key, val, id0, .slice A refs.length c⟩) 52)) (by decide)
    have i4 := rop_in (hasS 5) 82 (w.alloc (.cells (opPC ⟨5, 0, key, val, id0, .slice A refs.length c⟩) 52)) (by decide)
    have i5 := rop_in (hasS 5) 83 (w.alloc (.cells (opPC ⟨5, 0, key, val, id0, .slice A refs.length c⟩) 52)) (by decide)
    rw [show inB (hasS 5) 78 = false by decide +kernel] at i1
    rw [show inB (hasS 5) 75 = true by decide +kernel] at i2
    rw [show inB (hasS 5) 86 = true by decide +kernel] at i3
    rw [show inB (hasS 5) 82 = false by decide +kernel] at i4
    rw [show inB (hasS 5) 83 = true by decide +kernel] at i5
    rw [show hasS 5 = ⟨#[75, 86, 83]⟩ from rfl] at c1 i1 i2 i3 i4 i5
    clear hr
    go_enter Tryz.func70, Tryz.ntmps70
    go_upto_region 1 with fail
    obtain ⟨ga, hga⟩ : ∃ ga, w.heap.size = ga := ⟨_, rfl⟩
    have Hga := Lib.hid hga
    rw [hga] at x0 x1 x2 x3 x4 x5 hB ⊢
    obtain ⟨W, hW⟩ : ∃ W, W = w.alloc (.cells (opPC ⟨5, 0, key, val, id0, .slice A refs.length c⟩) 52) := ⟨_, rfl⟩
    rw [← hW] at x0 x1 x2 x3 x4 x5 hB c1 i1 i2 i3 i4 i5 hT0 ⊢
    clear hW hga
    go_wp2_with fail
    refine c1.mono ?_; rintro e w1 ⟨rfl, rfl⟩
    go_wp2_with fail
    refine i1.mono ?_; rintro e w1 ⟨rfl, rfl⟩
    go_wp2_with fail
    refine i2.mono ?_; rintro e w1 ⟨rfl, rfl⟩
    go_wp2_with fail
    refine i3.mono ?_; rintro e w1 ⟨rfl, rfl⟩
    go_wp2_with fail
    refine i4.mono ?_; rintro e w1 ⟨rfl, rfl⟩
    go_wp2_with fail
    refine i5.mono ?_; rintro e w1 ⟨rfl, rfl⟩
    clear c1 i1 i2 i3 i4 i5
    have cis := ris6 W A _ c _ hT0 hl
    rw [Hrb.out] at cis
    rw [← Hga.out] at hB
    go_wp2_with fail
    all_goals
      first
      | (go_ret; exact ⟨ret_int (by rw [Hck.out]; (try simp only [emptyS, List.length_nil] at *); (repeat' split) <;> (first | rfl | omega | (simp_all; done) | (simp_all; omega))), hB⟩)
      | (refine cis.mono ?_; rintro e w2 ⟨rfl, hb2⟩
         have hBB := bel2 hB hb2
         clear hT0 cis x0 x1 x2 x3 x4 x5 hb2
         cases rb <;> (go_wp2_with fail; go_ret; exact ⟨ret_int (by rw [Hck.out]; (try simp only [emptyS, List.length_nil] at *); (repeat' split) <;> (first | rfl | omega | (simp_all; done) | (simp_all; omega))), hBB⟩))
  · show Calls Tryz.prog 70 #[.agg (opPC ⟨6, 0, ⟨#[]⟩, val, ref, .slice A 0 c⟩)] w _
    change TagsIn (w.alloc (.cells (opPC ⟨6, 0, ⟨#[]⟩, val, ref, .slice A 0 c⟩) 52)) A 0 [] at hT0
    have hB : Below w.heap.size w (w.alloc (.cells (opPC ⟨6, 0, ⟨#[]⟩, val, ref, .slice A 0 c⟩) 52)) := (Below.refl _ _).alloc (Nat.le_refl _) _
    have hr : rowAt (w.alloc (.cells (opPC ⟨6, 0, ⟨#[]⟩, val, ref, .slice A 0 c⟩) 52)) w.heap.size 0 37 = some (opPC ⟨6, 0, ⟨#[]⟩, val, ref, .slice A 0 c⟩) := by simp [go_sem]
    have x0 := rowAt_cell hr (j := 0) (by omega); have x1 := rowAt_cell hr (j := 1) (by omega); have x2 := rowAt_cell hr (j := 2) (by omega); have x3 := rowAt_cell hr (j := 3) (by omega); have x5 := rowAt_cell hr (j := 36) (by omega)
    have x4 := rowAt_sub hr (j := 4) (m := 32) (by omega)
    simp only [opPC_g0, opPC_g1, opPC_g2, opPC_g3, opPC_g36, opPC_e4, Nat.zero_add] at x0 x1 x2 x3 x4 x5
    have c1 := rop_has 6 (w.alloc (.cells (opPC ⟨6, 0, ⟨#[]⟩, val, ref, .slice A 0 c⟩) 52)) (by omega)
    have i1 := rop_in (hasS 6) 78 (w.alloc (.cells (opPC ⟨6, 0, ⟨#[]⟩, val, ref, .slice A 0 c⟩) 52)) (by decide)
    have i2 := rop_in (hasS 6) 75 (w.alloc (.cells (opPC ⟨6, 0, ⟨#[]⟩, val, ref, .slice A 0 c⟩) 52)) (by decide)
    have i3 := rop_in (hasS 6) 86 (w.alloc (.cells (opPC ⟨6, 0, ⟨#[]⟩, val, ref, .slice A 0 c⟩) 52)) (by decide)
    have i4 := rop_in (hasS 6) 82 (w.alloc (.cells (opPC ⟨6, 0, ⟨#[]⟩, val, ref, .slice A 0 c⟩) 52)) (by decide)
    have i5 := rop_in (hasS 6) 83 (w.alloc (.cells (opPC ⟨6, 0, ⟨#[]⟩, val, ref, .slice A 0 c⟩) 52)) (by decide)
    rw [show inB (hasS 6) 78 = false by decide +kernel] at i1
    rw [show inB (hasS 6) 75 = false by decide +kernel] at i2
    rw [show inB (hasS 6) 86 = true by decide +kernel] at i3
    rw [show inB (hasS 6) 82 = true by decide +kernel] at i4
    rw [show inB (hasS 6) 83 = false by decide +kernel] at i5
    rw [show hasS 6 = ⟨#[82, 86]⟩ from rfl] at c1 i1 i2 i3 i4 i5
    clear hr
    go_enter Tryz.func70, Tryz.ntmps70
    go_upto_region 1 with fail
    obtain ⟨ga, hga⟩ : ∃ ga, w.heap.size = ga := ⟨_, rfl⟩
    have Hga := Lib.hid hga
    rw [hga] at x0 x1 x2 x3 x4 x5 hB ⊢
    obtain ⟨W, hW⟩ : ∃ W, W = w.alloc (.cells (opPC ⟨6, 0, ⟨#[]⟩, val, ref, .slice A 0 c⟩) 52) := ⟨_, rfl⟩
    rw [← hW] at x0 x1 x2 x3 x4 x5 hB c1 i1 i2 i3 i4 i5 hT0 ⊢
    clear hW hga
    go_wp2_with fail
    refine c1.mono ?_; rintro e w1 ⟨rfl, rfl⟩
    go_wp2_with fail
    refine i1.mono ?_; rintro e w1 ⟨rfl, rfl⟩
    go_wp2_with fail
    refine i2.mono ?_; rintro e w1 ⟨rfl, rfl⟩
    go_wp2_with fail
    refine i3.mono ?_; rintro e w1 ⟨rfl, rfl⟩
    go_wp2_with fail
    refine i4.mono ?_; rintro e w1 ⟨rfl, rfl⟩
    go_wp2_with fail
    refine i5.mono ?_; rintro e w1 ⟨rfl, rfl⟩
    clear c1 i1 i2 i3 i4 i5
    have cis := ris6 W A _ c _ hT0 hl
    rw [Hrb.out] at cis
    rw [← Hga.out] at hB
    go_wp2_with fail
    all_goals
      first
      | (go_ret; exact ⟨ret_int (by rw [Hck.out]; (try simp only [emptyS, List.length_nil] at *); (repeat' split) <;> (first | rfl | omega | (simp_all; done) | (simp_all; omega))), hB⟩)
      | (refine cis.mono ?_; rintro e w2 ⟨rfl, hb2⟩
         have hBB := bel2 hB hb2
         clear hT0 cis x0 x1 x2 x3 x4 x5 hb2
         cases rb <;> (go_wp2_with fail; go_ret; exact ⟨ret_int (by rw [Hck.out]; (try simp only [emptyS, List.length_nil] at *); (repeat' split) <;> (first | rfl | omega | (simp_all; done) | (simp_all; omega))), hBB⟩))
  · show Calls Tryz.prog 70 #[.agg (opPC ⟨7, 0, ⟨#[]⟩, ⟨#[]⟩, ref, .slice A 0 c⟩)] w _
    change TagsIn (w.alloc (.cells (opPC ⟨7, 0, ⟨#[]⟩, ⟨#[]⟩, ref, .slice A 0 c⟩) 52)) A 0 [] at hT0
    have hB : Below w.heap.size w (w.alloc (.cells (opPC ⟨7, 0, ⟨#[]⟩, ⟨#[]⟩, ref, .slice A 0 c⟩) 52)) := (Below.refl _ _).alloc (Nat.le_refl _) _
    have hr : rowAt (w.alloc (.cells (opPC ⟨7, 0, ⟨#[]⟩, ⟨#[]⟩, ref, .slice A 0 c⟩) 52)) w.heap.size 0 37 = some (opPC ⟨7, 0, ⟨#[]⟩, ⟨#[]⟩, ref, .slice A 0 c⟩) := by simp [go_sem]
    have x0 := rowAt_cell hr (j := 0) (by omega); have x1 := rowAt_cell hr (j := 1) (by omega); have x2 := rowAt_cell hr (j := 2) (by omega); have x3 := rowAt_cell hr (j := 3) (by omega); have x5 := rowAt_cell hr (j := 36) (by omega)
    have x4 := rowAt_sub hr (j := 4) (m := 32) (by omega)
    simp only [opPC_g0, opPC_g1, opPC_g2, opPC_g3, opPC_g36, opPC_e4, Nat.zero_add] at x0 x1 x2 x3 x4 x5
    have c1 := rop_has 7 (w.alloc (.cells (opPC ⟨7, 0, ⟨#[]⟩, ⟨#[]⟩, ref, .slice A 0 c⟩) 52)) (by omega)
    have i1 := rop_in (hasS 7) 78 (w.alloc (.cells (opPC ⟨7, 0, ⟨#[]⟩, ⟨#[]⟩, ref, .slice A 0 c⟩) 52)) (by decide)
    have i2 := rop_in (hasS 7) 75 (w.alloc (.cells (opPC ⟨7, 0, ⟨#[]⟩, ⟨#[]⟩, ref, .slice A 0 c⟩) 52)) (by decide)
    have i3 := rop_in (hasS 7) 86 (w.alloc (.cells (opPC ⟨7, 0, ⟨#[]⟩, ⟨#[]⟩, ref, .slice A 0 c⟩) 52)) (by decide)
    have i4 := rop_in (hasS 7) 82 (w.alloc (.cells (opPC ⟨7, 0, ⟨#[]⟩, ⟨#[]⟩, ref, .slice A 0 c⟩) 52)) (by decide)
    have i5 := rop_in (hasS 7) 83 (w.alloc (.cells (opPC ⟨7, 0, ⟨#[]⟩, ⟨#[]⟩, ref, .slice A 0 c⟩) 52)) (by decide)
    rw [show inB (hasS 7) 78 = false by decide +kernel] at i1
    rw [show inB (hasS 7) 75 = false by decide +kernel] at i2
    rw [show inB (hasS 7) 86 = false by decide +kernel] at i3
    rw [show inB (hasS 7) 82 = true by decide +kernel] at i4
    rw [show inB (hasS 7) 83 = false by decide +kernel] at i5
    rw [show hasS 7 = ⟨#[82]⟩ from rfl] at c1 i1 i2 i3 i4 i5
    clear hr
    go_enter Tryz.func70, Tryz.ntmps70
    go_upto_region 1 with fail
    obtain ⟨ga, hga⟩ : ∃ ga, w.heap.size = ga := ⟨_, rfl⟩
    have Hga := Lib.hid hga
    rw [hga] at x0 x1 x2 x3 x4 x5 hB ⊢
    obtain ⟨W, hW⟩ : ∃ W, W = w.alloc (.cells (opPC ⟨7, 0, ⟨#[]⟩, ⟨#[]⟩, ref, .slice A 0 c⟩) 52) := ⟨_, rfl⟩
    rw [← hW] at x0 x1 x2 x3 x4 x5 hB c1 i1 i2 i3 i4 i5 hT0 ⊢
    clear hW hga
    go_wp2_with fail
    refine c1.mono ?_; rintro e w1 ⟨rfl, rfl⟩
    go_wp2_with fail
    refine i1.mono ?_; rintro e w1 ⟨rfl, rfl⟩
    go_wp2_with fail
    refine i2.mono ?_; rintro e w1 ⟨rfl, rfl⟩
    go_wp2_with fail
    refine i3.mono ?_; rintro e w1 ⟨rfl, rfl⟩
    go_wp2_with fail
    refine i4.mono ?_; rintro e w1 ⟨rfl, rfl⟩
    go_wp2_with fail
    refine i5.mono ?_; rintro e w1 ⟨rfl, rfl⟩
    clear c1 i1 i2 i3 i4 i5
    have cis := ris6 W A _ c _ hT0 hl
    rw [Hrb.out] at cis
    rw [← Hga.out] at hB
    go_wp2_with fail
    all_goals
      first
      | (go_ret; exact ⟨ret_int (by rw [Hck.out]; (try simp only [emptyS, List.length_nil] at *); (repeat' split) <;> (first | rfl | omega | (simp_all; done) | (simp_all; omega))), hB⟩)
      | (refine cis.mono ?_; rintro e w2 ⟨rfl, hb2⟩
         have hBB := bel2 hB hb2
         clear hT0 cis x0 x1 x2 x3 x4 x5 hb2
         cases rb <;> (go_wp2_with fail; go_ret; exact ⟨ret_int (by rw [Hck.out]; (try simp only [emptyS, List.length_nil] at *); (repeat' split) <;> (first | rfl | omega | (simp_all; done) | (simp_all; omega))), hBB⟩))

end Go.Proofs.YtgfpjjppeldhbaaGreatDoor

/- The reference Num (petrelref01): numbers and ids as bytes. -/
namespace Go.Proofs.YtgfpjjppeldhbaaGreatDoor
open Go.RowKit

def pow256 : Nat → Int | 0 => 1 | k + 1 => 256 * pow256 k

theorem beL_snoc (k n : Nat) : beL (k + 1) n = beL k (n / 256) ++ [UInt8.ofNat n] := by
  induction k generalizing n with
  | zero => simp [beL]
  | succ k ih =>
    have h1 := ih n
    show UInt8.ofNat (n / 256 ^ (k + 1)) :: beL (k + 1) n = (UInt8.ofNat (n / 256 / 256 ^ k) :: beL k (n / 256)) ++ [UInt8.ofNat n]
    rw [h1, Nat.pow_succ, Nat.mul_comm, ← Nat.div_div_eq_div_mul]
    rfl

theorem mk1 (w : World) : (Instr.makeSlice 37 (.int .i64 1) (.int .i64 1)).run Tryz.prog w = .ok (.slice (some ⟨w.heap.size, 0, none⟩) 1 1) (w.alloc (.cells #[.int .u8 0] 5)) := by kernel_rfl
theorem mk4 (w : World) : (Instr.makeSlice 37 (.int .i64 4) (.int .i64 4)).run Tryz.prog w = .ok (.slice (some ⟨w.heap.size, 0, none⟩) 4 4) (w.alloc (.cells #[.int .u8 0, .int .u8 0, .int .u8 0, .int .u8 0] 5)) := by kernel_rfl
theorem conv_bytes (w : World) (bs : List UInt8) (n : Nat) (hn : n = bs.length) (cs : Array Value) (hc : cs = (bs.map byteC).toArray) :
    (convert 37 9 (.slice (some ⟨w.heap.size, 0, none⟩) n n)).run Tryz.prog (w.alloc (.cells cs 5)) = .ok (.string ⟨bs.toArray⟩) (w.alloc (.cells cs 5)) := by
  subst hn; subst hc
  exact run_convert_bytes_back (P := Tryz.prog) _ 37 9 5 ⟨w.heap.size, 0, none⟩ bs.length bs Tryz.underlying37 Tryz.underlying5 Tryz.underlying9 (fun j hj => by simp [go_sem, byteC, hj])
theorem u8n (n : Nat) : ((n : Int) % 256) = ((UInt8.ofNat n).toNat : Int) := by simp
set_option maxHeartbeats 1000000 in
set_option maxRecDepth 100000 in
theorem rnum1 (n : Nat) (w : World) (h : n < 256) :
    Calls Tryz.prog 83 #[.int .i64 n, .int .i64 1] w fun e w' => e = .returned (.tuple #[.string ⟨(beL 1 n).toArray⟩, .int .i64 0]) ∧ Below w.heap.size w w' := by
  have hd1 : decide ((n : Int) < 0) = false := by simp
  have hd2 : decide (256 ≤ (n : Int)) = false := by simp; omega
  have hcv := conv_bytes w (beL 1 n) 1 rfl #[.int .u8 ((n : Int) % 256)] (by rw [u8n]; simp [beL, byteC])
  obtain ⟨bs, hbs⟩ : ∃ bs, beL 1 n = bs := ⟨_, rfl⟩
  rw [hbs] at hcv ⊢
  clear hbs
  have hmk := mk1
  go_enter Tryz.func83, Tryz.ntmps83
  go_wp2_with fail
  refine wp_loop_rounds 1 ?_
  rw [rounds_succ]
  go_wp2_with fail
  refine wp_loop_rounds 2 ?_
  rw [rounds_succ]
  go_wp2_with fail
  rw [rounds_succ]
  go_wp2_with fail
  go_ret2
  exact ⟨rfl, (Below.refl _ _).alloc (Nat.le_refl _) _⟩

set_option maxHeartbeats 1000000 in
set_option maxRecDepth 100000 in
theorem rnum4 (n : Nat) (w : World) (h : n < 4294967296) :
    Calls Tryz.prog 83 #[.int .i64 n, .int .i64 4] w fun e w' => e = .returned (.tuple #[.string ⟨(beL 4 n).toArray⟩, .int .i64 0]) ∧ Below w.heap.size w w' := by
  have hd1 : decide ((n : Int) < 0) = false := by simp
  have hd2 : decide (4294967296 ≤ (n : Int)) = false := by simp; omega
  have hcv := conv_bytes w (beL 4 n) 4 rfl #[.int .u8 ((n : Int) / 256 / 256 / 256 % 256), .int .u8 ((n : Int) / 256 / 256 % 256), .int .u8 ((n : Int) / 256 % 256), .int .u8 ((n : Int) % 256)] (by
    have e1 : (n : Int) / 256 = ((n / 256 : Nat) : Int) := by simp
    have e2 : ((n / 256 : Nat) : Int) / 256 = ((n / 256 / 256 : Nat) : Int) := by simp
    have e3 : ((n / 256 / 256 : Nat) : Int) / 256 = ((n / 256 / 256 / 256 : Nat) : Int) := by simp
    rw [e1, e2, e3, u8n, u8n, u8n, u8n, beL_snoc, beL_snoc, beL_snoc]
    simp [beL, byteC])
  obtain ⟨bs, hbs⟩ : ∃ bs, beL 4 n = bs := ⟨_, rfl⟩
  rw [hbs] at hcv ⊢
  clear hbs
  have hmk := mk4
  go_enter Tryz.func83, Tryz.ntmps83
  go_wp2_with fail
  refine wp_loop_rounds 4 ?_
  rw [rounds_succ]
  go_wp2_with fail
  rw [rounds_succ]
  go_wp2_with fail
  rw [rounds_succ]
  go_wp2_with fail
  rw [rounds_succ]
  go_wp2_with fail
  refine wp_loop_rounds 5 ?_
  rw [rounds_succ]
  go_wp2_with fail
  rw [rounds_succ]
  go_wp2_with fail
  rw [rounds_succ]
  go_wp2_with fail
  rw [rounds_succ]
  go_wp2_with fail
  rw [rounds_succ]
  go_wp2_with fail
  go_ret2
  exact ⟨rfl, (Below.refl _ _).alloc (Nat.le_refl _) _⟩

theorem rnumP (n M : Nat) (w : World) (hM : M = 1 ∨ M = 4) (h : n < 256 ^ M) :
    Calls Tryz.prog 83 #[.int .i64 n, .int .i64 M] w fun e w' => ∃ s : ByteArray, e = .returned (.tuple #[.string s, .int .i64 0]) ∧ s.size = M ∧ s.data.toList = beL M n ∧ Below w.heap.size w w' := by
  have c : Calls Tryz.prog 83 #[.int .i64 n, .int .i64 M] w fun e w' => e = .returned (.tuple #[.string ⟨(beL M n).toArray⟩, .int .i64 0]) ∧ Below w.heap.size w w' := by
    rcases hM with rfl | rfl
    · exact rnum1 n w h
    · exact rnum4 n w h
  exact c.mono fun _ _ ⟨he, hb⟩ => ⟨_, he, (by show (beL M n).toArray.size = M; simp [beL_length]), by simp, hb⟩

end Go.Proofs.YtgfpjjppeldhbaaGreatDoor

/- The reference of operations (petrelref07): Put of an increment. -/
namespace Go.Proofs.YtgfpjjppeldhbaaGreatDoor
open Go.RowKit

theorem chk_inc (n : Nat) (hn : n < 1000) : chkN ⟨1, n, ⟨#[]⟩, ⟨#[]⟩, id0, []⟩ = 0 := by
  unfold chkN numO risI
  simp only [emptyS, List.length_nil]
  have h1 : decide ((n : Int) < 2147483648) = true := decide_eq_true (by omega)
  have h2 : decide (-2147483648 ≤ (n : Int)) = true := decide_eq_true (by omega)
  rw [h1, h2]
  rfl
/-- The bytes of an increment. -/
def incL (n : Nat) : List UInt8 := beL 1 1 ++ beL 4 (n + 2147483648)
set_option maxRecDepth 100000 in
set_option maxHeartbeats 2000000 in
theorem rop_put_inc (n : Nat) (w : World) (hn : n < 1000) :
    Calls Tryz.prog 41 #[.agg (opPC ⟨1, n, ⟨#[]⟩, ⟨#[]⟩, id0, .slice none 0 0⟩)] w fun e w' => ∃ s : ByteArray, e = .returned (.tuple #[.string s, .int .i64 0]) ∧ s.data.toList = incL n ∧ Below w.heap.size w w' := by
  have hB : Below w.heap.size w (w.alloc (.cells (opPC ⟨1, n, ⟨#[]⟩, ⟨#[]⟩, id0, .slice none 0 0⟩) 52)) := (Below.refl _ _).alloc (Nat.le_refl _) _
  have hr : rowAt (w.alloc (.cells (opPC ⟨1, n, ⟨#[]⟩, ⟨#[]⟩, id0, .slice none 0 0⟩) 52)) w.heap.size 0 37 = some (opPC ⟨1, n, ⟨#[]⟩, ⟨#[]⟩, id0, .slice none 0 0⟩) := by simp [go_sem]
  have cck := rop_check ⟨1, n, ⟨#[]⟩, ⟨#[]⟩, id0, []⟩ none 0 (w.alloc (.cells (opPC ⟨1, n, ⟨#[]⟩, ⟨#[]⟩, id0, .slice none 0 0⟩) 52)) (.inl ⟨rfl, rfl, rfl, rfl, rfl⟩) SlR.nil_ (by simp) (by rw [emptyS]; omega) (by rw [emptyS]; omega)
  rw [chk_inc n hn] at cck
  change Calls Tryz.prog _ #[.agg (opPC ⟨1, n, ⟨#[]⟩, ⟨#[]⟩, id0, .slice none 0 0⟩)] _ _ at cck
  go_enter Tryz.func41, Tryz.ntmps41
  go_upto_region 1 with fail
  obtain ⟨ga, hga⟩ : ∃ ga, w.heap.size = ga := ⟨_, rfl⟩
  have Hga := Lib.hid hga
  rw [hga] at hr hB ⊢
  obtain ⟨W, hW⟩ : ∃ W, W = w.alloc (.cells (opPC ⟨1, n, ⟨#[]⟩, ⟨#[]⟩, id0, .slice none 0 0⟩) 52) := ⟨_, rfl⟩
  rw [← hW] at hr hB cck ⊢
  clear hW hga
  go_wp2_with fail
  refine cck.mono ?_; rintro e w1 ⟨rfl, hb1⟩
  have hr1 : rowAt w1 ga 0 37 = some (opPC ⟨1, n, ⟨#[]⟩, ⟨#[]⟩, id0, .slice none 0 0⟩) := (rowAt_of_block (hb1.block ga (rowAt_lt hr)) _ _).trans hr
  have hB1 : Below ga w w1 := hB.trans (hb1.mono (by have := hB.size; have := Hga.out; omega))
  have x0 := rowAt_cell hr1 (j := 0) (by omega)
  rw [opPC_g0, Nat.zero_add] at x0
  clear hr hB cck hb1
  go_wp2_with fail
  refine (rnumP 1 1 _ (.inl rfl) (by omega)).mono ?_; rintro e w2 ⟨s1, rfl, hs1, hl1, hb2⟩
  have hr2 : rowAt w2 ga 0 37 = some (opPC ⟨1, n, ⟨#[]⟩, ⟨#[]⟩, id0, .slice none 0 0⟩) := (rowAt_of_block (hb2.block ga (rowAt_lt hr1)) _ _).trans hr1
  have hB2 : Below ga w w2 := hB1.trans (hb2.mono (by have := rowAt_lt hr1; omega))
  clear hr1 hB1 hb2 x0
  have x0 := rowAt_cell hr2 (j := 0) (by omega); have x1 := rowAt_cell hr2 (j := 1) (by omega)
  rw [opPC_g0, Nat.zero_add] at x0
  rw [opPC_g1, Nat.zero_add] at x1
  have Hl1 := Lib.hid hl1; have Hs1 := Lib.hid hs1
  clear hl1
  have ch := rop_has 1 w2 (by omega)
  rw [show hasS 1 = ⟨#[78]⟩ from rfl] at ch
  go_wp2_with fail
  refine ch.mono ?_; rintro e w3 ⟨rfl, rfl⟩
  have hb0 : (((⟨#[78]⟩ : ByteArray)[0]'(by decide)).toNat : Int) = 78 := rfl
  have cn := rnumP (n + 2147483648) 4 w2 (.inr rfl) (by omega)
  rw [show ((n + 2147483648 : Nat) : Int) = (n : Int) + 2147483648 from by omega] at cn
  have hw1 : ((n : Int) + 2147483648 + 9223372036854775808) % 18446744073709551616 - 9223372036854775808 = (n : Int) + 2147483648 := by omega
  have hle : (((⟨#[78]⟩ : ByteArray).size : Nat) : Int) = 1 := rfl
  go_wp2_with fail
  refine wp_loop_rounds 2 ?_
  rw [rounds_succ]
  go_wp2_with fail
  refine cn.mono ?_; rintro e w4 ⟨s2, rfl, hs2, hl2, hb4⟩
  have hB4 : Below ga w w4 := hB2.trans (hb4.mono (by have := rowAt_lt hr2; omega))
  have hsz : (s1 ++ s2).size ≤ 9223372036854775807 := by rw [ByteArray.size_append]; omega
  have hss : ¬ 9223372036854775807 < s1.size + s2.size := by omega
  have Hl2 := Lib.hid hl2
  clear hb4 hr2 x0 x1 hl2 cn
  go_wp2_with fail
  rw [rounds_succ]
  go_wp2_with fail
  go_ret2
  refine ⟨s1 ++ s2, rfl, ?_, by rw [Hga.out]; exact hB4⟩
  rw [ByteArray.data_append, Array.toList_append, Hl1.out, Hl2.out]; rfl

theorem inc2_e : opE (incL 2) = 0 := by decide +kernel
theorem inc2_k : (opO (incL 2)).k = 1 := by decide +kernel
theorem inc2_n : (opO (incL 2)).n = 2 := by decide +kernel

end Go.Proofs.YtgfpjjppeldhbaaGreatDoor

/- Pairs of texts (api.Pair): as cells, and slices of them. -/
namespace Go.Proofs.YtgfpjjppeldhbaaGreatDoor
open Go.RowKit

structure Pair where
  key : ByteArray
  val : ByteArray
/-- Its cells. -/
def pairC (x : Pair) : Array Value := #[.string x.key] ++ #[.string x.val]
@[simp] theorem pairC_size (x : Pair) : (pairC x).size = 2 := by simp [pairC]
@[go_sem] theorem pairC_g0 (x : Pair) : (pairC x)[0]? = some (.string x.key) := by first | (simp [pairC, Array.getElem?_append]; done) | (rw [show pairC x = ((#[] : Array Value)) ++ #[.string x.key] ++ (#[.string x.val]) from by apply Array.ext'; simp [pairC]]; exact arr_at _ _ _ _ (by simp))
@[go_sem] theorem pairC_gg0 (x : Pair) (h : 0 < (pairC x).size) : (pairC x)[0]'h = .string x.key := Option.some.inj ((Array.getElem?_eq_getElem h).symm.trans (pairC_g0 x))
@[go_sem] theorem pairC_g1 (x : Pair) : (pairC x)[1]? = some (.string x.val) := by first | (simp [pairC, Array.getElem?_append]; done) | (rw [show pairC x = (#[.string x.key]) ++ #[.string x.val] ++ ((#[] : Array Value)) from by apply Array.ext'; simp [pairC]]; exact arr_at _ _ _ _ (by simp))
@[go_sem] theorem pairC_gg1 (x : Pair) (h : 1 < (pairC x).size) : (pairC x)[1]'h = .string x.val := Option.some.inj ((Array.getElem?_eq_getElem h).symm.trans (pairC_g1 x))
@[go_sem] theorem pairC_all (x : Pair) : (pairC x).extract 0 2 = pairC x := by have := Array.extract_size (xs := pairC x); rwa [pairC_size] at this
theorem pairC_inj {x y : Pair} (h : pairC x = pairC y) : x = y := by
  have h0 := congrArg (fun a => a[0]?) h
  simp only [pairC_g0, Option.some.injEq, Value.string.injEq] at h0
  have h1 := congrArg (fun a => a[1]?) h
  simp only [pairC_g1, Option.some.injEq, Value.string.injEq] at h1
  cases x; cases y; simp_all
theorem pairC_one (x : Pair) : ∀ u ∈ (pairC x).toList, u.oneCell' = true := by
  intro u hu
  simp only [pairC, Array.toList_append, List.mem_append] at hu
  rcases hu with hu | hu
  · simp at hu; subst hu; rfl
  · simp at hu; subst hu; rfl
def pair0 : Pair := ⟨⟨#[]⟩, ⟨#[]⟩⟩
theorem Pair_ext {x y : Pair} (h : x.key = y.key ∧ x.val = y.val) : x = y := by cases x; cases y; simp_all
instance : DecidableEq Pair := fun x y => if h : x.key = y.key ∧ x.val = y.val then isTrue (Pair_ext h) else isFalse (fun e => h (by subst e; simp))
theorem infoPair : (Tryz.prog.info? 98).map (·.size) = some 2 := by kernel_rfl
@[go_sem ↓] theorem zeroPair_run (w : World) : (zeroValue 98).run Tryz.prog w = .ok (.agg (pairC pair0)) w := by
  have h : (Tryz.prog.info? 98).bind (·.zero) = some (.agg (pairC pair0)) := by kernel_rfl
  cases hi : Tryz.prog.info? 98 with
  | none => rw [hi] at h; cases h
  | some i =>
    rw [hi] at h
    have hz : i.zero = some (.agg (pairC pair0)) := h
    simp [zeroValue, typeInfo, hi, hz]
@[go_sem ↓] theorem loadPair_rw (a : Addr) : loadVar 98 a = ldS 98 a := rfl
@[go_sem ↓] theorem storePair_rw (a : Addr) (v : Value) : storeVar 98 a v = stS 98 a v := rfl
@[go_sem] theorem loadPair_run (w : World) (g o : Nat) : (ldS 98 ⟨g, o, none⟩).run Tryz.prog w = match rowAt w g o 2 with | some cs => .ok (.agg cs) w | none => (loadVar 98 ⟨g, o, none⟩).run Tryz.prog w :=
  run_ldS Tryz.underlying98 rfl infoPair w g o
@[go_sem] theorem storePair_run (w : World) (g : Nat) (hg : g = w.heap.size) (z : Array Value) (hz : z.size = 2) (x : Pair) (e : TypeId) : (stS 98 ⟨g, 0, none⟩ (.agg (pairC x))).run Tryz.prog (w.alloc (.cells z e)) = .ok () (w.alloc (.cells (pairC x) e)) :=
  hg ▸ run_stS_new infoPair w z (pairC x) hz (pairC_size x) (pairC_one x)
theorem fieldsPair : Tryz.prog.underlying 98 = some (.struct (Tryz.prog.fieldsOf 98)) := by kernel_rfl
theorem placesPair (w : World) : ((Tryz.prog.fieldsOf 98).mapM fun (f : Field) => do pure (f.offset, ← sizeOf f.type)).run Tryz.prog w = .ok #[(0, 1), (1, 1)] w := by kernel_rfl
@[go_sem ↓] theorem buildPair_rw (parts : Array (Nat × Value)) : Instr.build 98 parts = bdS 98 parts := rfl
@[go_sem] theorem buildPair (a0 : ByteArray) (a1 : ByteArray) (w : World) : (bdS 98 #[(0, .string a0), (1, .string a1)]).run Tryz.prog w = .ok (.agg (pairC ⟨a0, a1⟩)) w := by
  refine run_build w fieldsPair _ (zeroPair_run w) _ (placesPair w) [(0, .string a0), (1, .string a1)] _ ?_
  rw [show pairC pair0 = (#[] : Array Value) ++ #[.string ⟨#[]⟩] ++ (#[.string ⟨#[]⟩]) from by first | (simp [pairC, pair0, Array.append_assoc]; done) | (apply Array.ext'; simp [pairC, pair0])]
  rw [fill_step (off := 0) (size := 1) rfl (by simp) (by simp) (by simp [Value.cells])]
  rw [show (#[] : Array Value) ++ (Value.string a0).cells ++ (#[.string ⟨#[]⟩]) = (#[.string a0]) ++ #[.string ⟨#[]⟩] ++ (#[] : Array Value) from by first | (simp [Value.cells, Array.append_assoc]; done) | (apply Array.ext'; simp [Value.cells]; done) | (apply Array.ext'; simp only [Array.toList_append]; simp [Value.cells])]
  rw [fill_step (off := 1) (size := 1) rfl (by simp) (by simp) (by simp [Value.cells])]
  first | (simp [Instr.fill, pairC, Array.append_assoc, Value.cells]; done) | (simp only [Instr.fill, pairC]; congr 1; apply Array.ext'; simp [Value.cells]; done) | (simp only [Instr.fill, pairC]; congr 1; done) | (simp only [Instr.fill, pairC]; done)
@[go_sem] theorem buildPair_0 (a0 : ByteArray) (w : World) : (bdS 98 #[(0, .string a0)]).run Tryz.prog w = .ok (.agg (pairC ⟨a0, ⟨#[]⟩⟩)) w := by
  refine run_build w fieldsPair _ (zeroPair_run w) _ (placesPair w) [(0, .string a0)] _ ?_
  rw [show pairC pair0 = (#[] : Array Value) ++ #[.string ⟨#[]⟩] ++ (#[.string ⟨#[]⟩]) from by first | (simp [pairC, pair0, Array.append_assoc]; done) | (apply Array.ext'; simp [pairC, pair0])]
  rw [fill_step (off := 0) (size := 1) rfl (by simp) (by simp) (by simp [Value.cells])]
  first | (simp [Instr.fill, pairC, Array.append_assoc, Value.cells]; done) | (simp only [Instr.fill, pairC]; congr 1; apply Array.ext'; simp [Value.cells]; done) | (simp only [Instr.fill, pairC]; congr 1; done) | (simp only [Instr.fill, pairC]; done)

theorem einfoPair : ElemInfo Tryz.prog 23 98 2 32 :=
  .of (z := .agg (pairC pair0)) Tryz.underlying23 (by kernel_rfl) (by kernel_rfl) (by kernel_rfl) (pairC_size _) (by omega)
@[go_sem ↓] theorem bsPair_rw (n : Nat) (parts : Array (Nat × Value)) : Instr.buildSlice 23 n parts = bsS 23 n parts := rfl
@[go_sem] theorem bsPair_run (w : World) (x : Pair) : (bsS 23 1 #[(0, .agg (pairC x))]).run Tryz.prog w = .ok (.slice (some ⟨w.heap.size, 0, none⟩) 1 1) (w.alloc (.cells (pairC x) 98)) :=
  run_bsS1 einfoPair (by omega) w (pairC x) (pairC_size x)

end Go.Proofs.YtgfpjjppeldhbaaGreatDoor

/- The reference Pairs (petrelref22): are two lists one? -/
namespace Go.Proofs.YtgfpjjppeldhbaaGreatDoor
open Go.RowKit

def pairEqB (x y : Pair) : Bool := (x.key.toList == y.key.toList) && (x.val.toList == y.val.toList)
theorem pairEqB_eq (x y : Pair) : pairEqB x y = true ↔ x = y := by
  unfold pairEqB
  simp only [Bool.and_eq_true, beq_iff_eq, toList_inj]
  exact ⟨fun h => Pair_ext h, fun h => by subst h; exact ⟨rfl, rfl⟩⟩
theorem eqPair_in (x y : Pair) (w : World) : (Op.equalIn 10000 98 (.agg (pairC x)) (.agg (pairC y))).run Tryz.prog w = .ok (pairEqB x y) w := by
  rw [show (10000 : Nat) = 9999 + 1 from rfl, run_equalIn_agg w 9999 98 _ _ fieldsPair (by kernel_rfl)]
  unfold pairEqB
  have e1 := run_equalIn_string (P := Tryz.prog) w 9998 9 x.key y.key Tryz.underlying9
  have e2 := run_equalIn_string (P := Tryz.prog) w 9998 9 x.val y.val Tryz.underlying9
  simp only [Program.fieldsOf, Tryz.underlying98]
  simp [Op.eqFields, part, asAgg, isAgg, go_sem, Tryz.underlying9, e1, e2]
  by_cases h1 : x.key.toList = y.key.toList <;> by_cases h2 : x.val.toList = y.val.toList <;> simp [h1, h2]
@[go_sem ↓] theorem neqPair_run (x y : Pair) (w : World) : (binOp .neq 98 (.agg (pairC x)) (.agg (pairC y))).run Tryz.prog w = .ok (.bool (!(pairEqB x y))) w := by
  rw [run_neq_struct, eqPair_in]; rfl

def PairsIn (w : World) (A : Option Addr) (n : Nat) (L : List Pair) : Prop := SlR w A n 2 (L.map pairC)
theorem PairsIn.get {w : World} {A : Option Addr} {n : Nat} {R : List Pair} (h : PairsIn w A n R) {i : Nat} (hi : i < n) (hR : i < R.length) :
    ∃ g o, A = some ⟨g, o, none⟩ ∧ rowAt w g (o + i * 2) 2 = some (pairC R[i]) ∧ w.cell? ⟨g, o + i * 2, none⟩ = some (.string (R[i]).key) ∧ w.cell? ⟨g, o + i * 2 + 1, none⟩ = some (.string (R[i]).val) := by
  obtain ⟨g, o, e, hr⟩ := SlR.at_ h hi
  rw [List.getElem_map] at hr
  refine ⟨g, o, e, hr, ?_, ?_⟩
  · have := rowAt_cell hr (j := 0) (by omega)
    rwa [pairC_g0] at this
  · have := rowAt_cell hr (j := 1) (by omega)
    rwa [pairC_g1] at this
theorem PairsIn.len {w : World} {A : Option Addr} {n : Nat} {R : List Pair} (h : PairsIn w A n R) : R.length = n := by simpa using h.1

set_option maxHeartbeats 1000000 in
theorem rpairs (w : World) (A B : Option Addr) (n m cap cap' : Nat) (X Y : List Pair) (hx : PairsIn w A n X) (hy : PairsIn w B m Y) (hn : n ≤ 1000000) (hm : m ≤ 1000000) :
    Calls Tryz.prog 50 #[.slice A n cap, .slice B m cap'] w fun e w' => e = .returned (.bool (decide (X = Y))) ∧ Below w.heap.size w w' := by
  have hlx := hx.len
  have hly := hy.len
  have Hlx := Lib.hid hlx; have Hly := Lib.hid hly
  by_cases hnm : n = m
  · subst hnm
    clear hlx hly
    go_enter Tryz.func50, Tryz.ntmps50
    go_wp2_with fail
    go_loopw [5] (fun i wr => ∃ k : Nat, k ≤ n ∧ i = .int .i64 k ∧ Hid (X.take k = Y.take k) ∧ Below w.heap.size w wr) (fun i _ => n - (intOf i).toNat)
    case atStart => exact ⟨0, Nat.zero_le _, rfl, rfl, Below.refl _ _⟩
    case round =>
      obtain ⟨k, hk, rfl, heq, hb⟩ := hrel
      by_cases hlt : k < n
      · obtain ⟨q, o, rfl, hr, _, _⟩ := PairsIn.get (SlR.below hx hb) hlt (by rw [Hlx.out]; exact hlt)
        obtain ⟨q2, o2, rfl, hr2, _, _⟩ := PairsIn.get (SlR.below hy hb) hlt (by rw [Hly.out]; exact hlt)
        have hX : X.take (k + 1) = X.take k ++ [X[k]'(by rw [Hlx.out]; exact hlt)] := by rw [List.take_add_one, List.getElem?_eq_getElem (by rw [Hlx.out]; exact hlt)]; rfl
        have hY : Y.take (k + 1) = Y.take k ++ [Y[k]'(by rw [Hly.out]; exact hlt)] := by rw [List.take_add_one, List.getElem?_eq_getElem (by rw [Hly.out]; exact hlt)]; rfl
        obtain ⟨x, hx'⟩ : ∃ x, X[k]'(by rw [Hlx.out]; exact hlt) = x := ⟨_, rfl⟩
        obtain ⟨y, hy'⟩ : ∃ y, Y[k]'(by rw [Hly.out]; exact hlt) = y := ⟨_, rfl⟩
        rw [hx'] at hr hX
        rw [hy'] at hr2 hY
        have HX := Lib.hid hX; have HY := Lib.hid hY
        clear hX hY
        have HX' := Lib.hid hx'; have HY' := Lib.hid hy'
        clear hx' hy'
        go_upto_region 6 with fail
        refine wp_region_lex (Bel wr) false (by kernel_rfl) (by kernel_rfl) (by kernel_rfl) (bel_drew wr) ?_
        have hne := bel_some wr
        have hS := bel_drew wr
        have b1 := sub_row hr; have b2 := sub_row hr2
        repeat (refine wpLx_loose ?_ ?_; (focus (simp only [chainOp]; done)); intro K hK; go_simp; refine hK _ ?_; clear hK K)
        refine wpLx_nil ?_
        intro hS
        clear hne hS b1 b2 hr hr2
        have hb' : Below w.heap.size w wr.drew := hb.drew
        cases hpe : pairEqB x y with
        | true =>
          have e := (pairEqB_eq x y).1 hpe
          have E := Lib.hid e
          clear e
          go_wp2_with fail
          go_roundw
          case rel => exact ⟨k + 1, by omega, by go_num, (show X.take (k + 1) = Y.take (k + 1) by rw [HX.out, HY.out, heq.out, E.out]), hb'⟩
          case measure => simp [intOf]; omega
        | false =>
          have hne : X ≠ Y := by
            intro e
            subst e
            have : x = y := HX'.out.symm.trans HY'.out
            rw [(pairEqB_eq x y).2 this] at hpe
            cases hpe
          have hd := Lib.hid (decide_eq_false hne)
          clear hne
          go_wp2_with fail
          go_ret
          exact ⟨ret_bool (by rw [hd.out]), hb'⟩
      · have hkn : k = n := by omega
        have e : X = Y := by
          have := heq.out
          rwa [List.take_of_length_le (by rw [Hlx.out]; omega), List.take_of_length_le (by rw [Hly.out]; omega)] at this
        have E := Lib.hid (decide_eq_true e)
        clear e hkn
        go_wp2_with fail
        go_ret
        exact ⟨ret_bool (by rw [E.out]), hb⟩
  · have hne : X ≠ Y := by intro e; subst e; exact hnm (hlx.symm.trans hly)
    have hd := Lib.hid (decide_eq_false hne)
    have hnm2 : (n == m) = false := by simpa using hnm
    have hnm3 : ((n : Int) == (m : Int)) = false := by rw [beq_eq_false_iff_ne]; omega
    clear hlx hly hne
    go_enter Tryz.func50, Tryz.ntmps50
    go_wp2_with fail
    go_ret
    exact ⟨ret_bool (by rw [hd.out]), Below.refl _ _⟩

end Go.Proofs.YtgfpjjppeldhbaaGreatDoor
