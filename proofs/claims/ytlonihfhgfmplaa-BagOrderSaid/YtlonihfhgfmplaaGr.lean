/- Worlds that some draws, and some new blocks, part. No program is named here. -/
import Derived.Test.YtlonihfhgfmplaaLex
import Derived.Sort.Grow
namespace Go.Proofs.Ytlonihfhgfmplaa
open Go.RowKit Go.Sort

/-- Draws, and blocks laid behind. -/
def Gr (W w : World) : Prop := ∃ q os, w = grow (W.drewN q) os
theorem Gr.refl (w : World) : Gr w w := ⟨0, #[], by rw [grow_empty]; rfl⟩
theorem Gr.drew (w : World) : Gr w w.drew := ⟨1, #[], by rw [grow_empty]; rfl⟩
theorem Gr.trans {a b c : World} (h : Gr a b) (k : Gr b c) : Gr a c := by
  obtain ⟨q, os, rfl⟩ := h
  obtain ⟨q', os', rfl⟩ := k
  refine ⟨q + q', os ++ os', ?_⟩
  show grow (grow ((a.drewN q).drewN q') os) os' = _
  rw [grow_grow, World.drewN_drewN]
theorem Gr.alloc {W w : World} (h : Gr W w) (o : Obj) : Gr W (w.alloc o) := h.trans ⟨0, #[o], by rw [alloc_eq_grow]; rfl⟩
theorem Gr.below {W w : World} (h : Gr W w) : Below W.heap.size W w := by
  obtain ⟨q, os, rfl⟩ := h
  exact ⟨rfl, rfl, rfl, by rw [size_grow]; exact Nat.le_add_right _ _, fun k hk => heap_grow_old _ _ hk⟩
theorem Gr.drewN {W w : World} (h : Gr W w) (n : Nat) : Gr W (w.drewN n) := h.trans ⟨n, #[], by rw [grow_empty]⟩
theorem gr_some (W : World) : Nonempty (Subtype (Gr W)) := ⟨⟨W, Gr.refl _⟩⟩
theorem gsub_cell {W : World} {p : Addr} {v : Value} (h : W.cell? p = some v) : ∀ x : Subtype (Gr W), x.1.cell? p = some v :=
  fun x => (x.2.below.cell (World.block_lt_of_cell? W _ h)).trans h
theorem gsub_row {W : World} {g o k : Nat} {cs : Array Value} (h : rowAt W g o k = some cs) : ∀ x : Subtype (Gr W), rowAt x.1 g o k = some cs :=
  fun x => (rowAt_of_block (x.2.below.block g (rowAt_lt h)) o k).trans h

end Go.Proofs.Ytlonihfhgfmplaa
