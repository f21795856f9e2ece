/- Ids: 32 bytes: as cells, compared, loaded and stored whole. -/
import Derived.Test.YtlonihfhgfmplaaMem
import Derived.Stop.BytesEq
namespace Go.Proofs.Ytlonihfhgfmplaa
open Go.RowKit

structure Id32 where
  l : List UInt8
  h : l.length = 32

def byteC (c : UInt8) : Value := .int .u8 c.toNat
def idC (x : Id32) : Array Value := (x.l.map byteC).toArray
theorem Id32.ext' {a b : Id32} (h : a.l = b.l) : a = b := by cases a; cases b; simp_all
instance : DecidableEq Id32 := fun a b => if h : a.l = b.l then isTrue (Id32.ext' h) else isFalse (fun e => h (by rw [e]))
@[simp] theorem idC_size (x : Id32) : (idC x).size = 32 := by simp [idC, x.h]
theorem idC_inj {a b : Id32} (h : idC a = idC b) : a = b := by
  apply Id32.ext'
  have h2 : a.l.map byteC = b.l.map byteC := by simpa [idC] using h
  have inj : ∀ x y : UInt8, byteC x = byteC y → x = y := fun x y e => by
    unfold byteC at e; injection e with _ e; exact UInt8.toNat_inj.1 (by omega)
  exact (List.map_inj_right inj).1 h2
def idB (x : Id32) (i : Nat) : Int := ((x.l.getD i 0).toNat : Int)
theorem idB_bd (x : Id32) (i : Nat) : 0 ≤ idB x i ∧ idB x i ≤ 255 := by
  have := (x.l.getD i 0).toNat_lt; unfold idB; omega
@[go_sem] theorem idC_get (x : Id32) (i : Nat) : (idC x)[i]? = if i < 32 then some (.int .u8 (idB x i)) else none := by
  by_cases h : i < 32
  · rw [if_pos h]
    have hl : i < x.l.length := by rw [x.h]; exact h
    simp [idC, idB, byteC, List.getD, hl]
  · rw [if_neg h]
    exact Array.getElem?_eq_none (by rw [idC_size]; omega)
@[go_sem] theorem idC_getElem (x : Id32) (i : Nat) (h : i < (idC x).size) : (idC x)[i]'h = .int .u8 (idB x i) := by
  have h1 : i < 32 := by rw [idC_size] at h; exact h
  have h2 := idC_get x i
  rw [if_pos h1, Array.getElem?_eq_getElem h] at h2
  exact Option.some.inj h2
@[go_sem] theorem idC_all (x : Id32) : (idC x).extract 0 32 = idC x := by
  have := Array.extract_size (xs := idC x); rwa [idC_size] at this
theorem idC_one (x : Id32) : ∀ u ∈ (idC x).toList, u.oneCell' = true := by
  intro u hu
  simp [idC] at hu
  obtain ⟨c, _, rfl⟩ := hu
  rfl
def id0 : Id32 := ⟨List.replicate 32 0, by simp⟩

section
theorem infoId : (Try.prog.info? 24).map (·.size) = some 32 := by kernel_rfl
theorem zeroId_run (w : World) : (zeroValue 24).run Try.prog w = .ok (.agg (idC id0)) w := by
  have h : (Try.prog.info? 24).bind (·.zero) = some (.agg (idC id0)) := by kernel_rfl
  cases hi : Try.prog.info? 24 with
  | none => rw [hi] at h; cases h
  | some i =>
    rw [hi] at h
    have hz : i.zero = some (.agg (idC id0)) := h
    simp [zeroValue, typeInfo, hi, hz]
attribute [go_sem ↓] zeroId_run
@[go_sem ↓] theorem loadId_rw (a : Addr) : loadVar 24 a = ldS 24 a := rfl
@[go_sem ↓] theorem storeId_rw (a : Addr) (v : Value) : storeVar 24 a v = stS 24 a v := rfl
@[go_sem] theorem loadId_run (w : World) (g o : Nat) : (ldS 24 ⟨g, o, none⟩).run Try.prog w = match rowAt w g o 32 with | some cs => .ok (.agg cs) w | none => (loadVar 24 ⟨g, o, none⟩).run Try.prog w :=
  run_ldS Try.underlying24 rfl infoId w g o
@[go_sem] theorem storeId_run (w : World) (g : Nat) (hg : g = w.heap.size) (z : Array Value) (hz : z.size = 32) (x : Id32) (e : TypeId) : (stS 24 ⟨g, 0, none⟩ (.agg (idC x))).run Try.prog (w.alloc (.cells z e)) = .ok () (w.alloc (.cells (idC x) e)) :=
  hg ▸ run_stS_new infoId w z (idC x) hz (idC_size x) (idC_one x)
theorem sizeByte (w : World) : (sizeOf 5).run Try.prog w = .ok 1 w := by
  have h : (Try.prog.info? 5).map (·.size) = some 1 := by kernel_rfl
  cases hi : Try.prog.info? 5 with
  | none => rw [hi] at h; cases h
  | some i =>
    rw [hi] at h
    have hk : i.size = 1 := by simpa using h
    simp [sizeOf, typeInfo, hi, hk]
theorem eqId_in (d : Nat) (x y : Id32) (w : World) : (Op.equalIn (d + 2) 24 (.agg (idC x)) (.agg (idC y))).run Try.prog w = .ok (x == y) w := by
  have e : ∀ z : Id32, idC z = (z.l.map Extern.Stop.cell).toArray := fun _ => rfl
  have hb : (x.l == y.l) = (x == y) := by
    rw [Bool.eq_iff_iff]
    simp only [beq_iff_eq]
    exact ⟨Id32.ext', fun h => by rw [h]⟩
  rw [e x, e y, run_equalIn_bytes (P := Try.prog) w d 24 5 32 Try.underlying24 Try.underlying5 sizeByte x.l y.l x.h y.h, hb]
@[go_sem ↓] theorem eqId_run (x y : Id32) (w : World) : (Op.equalIn 10000 24 (.agg (idC x)) (.agg (idC y))).run Try.prog w = .ok (x == y) w := eqId_in 9998 x y w
end

end Go.Proofs.Ytlonihfhgfmplaa
