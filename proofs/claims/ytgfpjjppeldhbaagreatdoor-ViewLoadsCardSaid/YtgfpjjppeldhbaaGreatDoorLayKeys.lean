/- The shelf's contracts on slices.Sorted(maps.Keys(m)) at this dump, laid by the kit's own tools (lay-iter, lay-plain). -/
import Derived.Shelf.SlIter.Nil
import Derived.Shelf.SortM.Plain
import Derived.Shelf.SortM.SortNone
import Derived.Ground.GgzProg
import Derived.Ground.SlgmProg
import Derived.Test.YtgfpjjppeldhbaaGreatDoorProg
namespace Go.Proofs
open Go.Shelf
def Tryz.keys197_ren : Go.Shelf.Ren := ⟨fun | 7 => 197 | 10 => 253 | n => n, fun | 23 => 175 | 26 => 9 | 3 => 180 | 28 => 279 | 0 => 0 | 27 => 278 | 33 => 136 | 4 => 4 | n => n, fun | n => n⟩
theorem Tryz.keys197 : Go.Proofs.SlLaysZ.n7 Tryz.prog Tryz.keys197_ren := {
  mixed := by kernel_rfl
  f7 := ⟨Tryz.f197.name, by decide, Tryz.func197.trans (congrArg some (by kernel_rfl))⟩
  f10 := ⟨Tryz.f253.name, by decide, Tryz.func253.trans (congrArg some (by kernel_rfl))⟩
  t0 := Tryz.underlying0
  a0 := Tryz.isAgg0
  z0 := Tryz.sizeOf0
  v0 := Tryz.zeroValue0
  t4 := Tryz.underlying4
  a4 := Tryz.isAgg4
  z4 := Tryz.sizeOf4
  v4 := Tryz.zeroValue4
  t23 := Tryz.underlying175
  a23 := Tryz.isAgg175
  z23 := Tryz.sizeOf175
  v23 := Tryz.zeroValue175
  t26 := Tryz.underlying9
  a26 := Tryz.isAgg9
  z26 := Tryz.sizeOf9
  v26 := Tryz.zeroValue9
  t27 := Tryz.underlying278
  a27 := Tryz.isAgg278
  z27 := Tryz.sizeOf278
  v27 := Tryz.zeroValue278
  t28 := Tryz.underlying279
  a28 := Tryz.isAgg279
  z28 := Tryz.sizeOf279
  v28 := Tryz.zeroValue279
  t33 := Tryz.underlying136
  a33 := Tryz.isAgg136
  z33 := Tryz.sizeOf136
  v33 := Tryz.zeroValue136 }
def Tryz.sorted196_ren : Go.Shelf.Ren := ⟨fun | 6 => 196 | 8 => 252 | 9 => 123 | 11 => 285 | 13 => 195 | 12 => 194 | 23 => 250 | 24 => 251 | 14 => 241 | 15 => 242 | 16 => 243 | 17 => 244 | 18 => 245 | 19 => 246 | 20 => 247 | 21 => 248 | 22 => 249 | 25 => 280 | 26 => 281 | 27 => 282 | 28 => 283 | 29 => 284 | 30 => 202 | 31 => 301 | n => n, fun | 26 => 9 | 28 => 279 | 24 => 166 | 0 => 0 | 3 => 3 | 37 => 235 | 48 => 337 | 50 => 229 | 4 => 4 | 40 => 329 | 39 => 328 | 45 => 334 | 5 => 5 | 9 => 9 | 51 => 356 | 55 => 360 | 57 => 374 | 58 => 246 | 33 => 136 | n => n, fun | n => n⟩
theorem Tryz.sorted196 : Go.Proofs.SlLaysZ.n6 Tryz.prog Tryz.sorted196_ren := {
  mixed := by kernel_rfl
  f6 := ⟨Tryz.f196.name, by decide, Tryz.func196.trans (congrArg some (by kernel_rfl))⟩
  f8 := ⟨Tryz.f252.name, by decide, Tryz.func252.trans (congrArg some (by kernel_rfl))⟩
  f11 := ⟨Tryz.f285.name, by decide, Tryz.func285.trans (congrArg some (by kernel_rfl))⟩
  t0 := Tryz.underlying0
  a0 := Tryz.isAgg0
  z0 := Tryz.sizeOf0
  v0 := Tryz.zeroValue0
  t24 := Tryz.underlying166
  a24 := Tryz.isAgg166
  z24 := Tryz.sizeOf166
  v24 := Tryz.zeroValue166
  t26 := Tryz.underlying9
  a26 := Tryz.isAgg9
  z26 := Tryz.sizeOf9
  v26 := Tryz.zeroValue9
  t28 := Tryz.underlying279
  a28 := Tryz.isAgg279
  z28 := Tryz.sizeOf279
  v28 := Tryz.zeroValue279
  i26 := by kernel_rfl }
def Tryz.sort123_ren : Go.Shelf.Ren := ⟨fun | 6 => 123 | 8 => 195 | 9 => 194 | 19 => 250 | 20 => 251 | 21 => 241 | 22 => 242 | 23 => 243 | 24 => 244 | 25 => 245 | 26 => 246 | 27 => 247 | 28 => 248 | 29 => 249 | 36 => 280 | 31 => 281 | 32 => 282 | 37 => 283 | 38 => 284 | 39 => 202 | 41 => 301 | n => n, fun | 27 => 166 | 29 => 9 | 3 => 3 | 32 => 235 | 26 => 166 | 0 => 0 | 44 => 337 | 46 => 229 | 4 => 4 | 36 => 329 | 35 => 328 | 41 => 334 | 5 => 5 | 9 => 9 | 53 => 356 | 57 => 360 | 63 => 374 | 64 => 246 | n => n, fun | n => n⟩
theorem Tryz.sort123 : Go.Proofs.SlLaysM.n6 Tryz.prog Tryz.sort123_ren := {
  mixed := by kernel_rfl
  f6 := ⟨Tryz.f123.name, by decide, Tryz.func123.trans (congrArg some (by kernel_rfl))⟩
  f8 := Tryz.func195.trans (congrArg some (by kernel_rfl))
  f9 := ⟨Tryz.f194.name, by decide, Tryz.func194.trans (congrArg some (by kernel_rfl))⟩
  f19 := Tryz.func250.trans (congrArg some (by kernel_rfl))
  f20 := Tryz.func251.trans (congrArg some (by kernel_rfl))
  f21 := ⟨Tryz.f241.name, by decide, Tryz.func241.trans (congrArg some (by kernel_rfl))⟩
  f22 := ⟨Tryz.f242.name, by decide, Tryz.func242.trans (congrArg some (by kernel_rfl))⟩
  f23 := ⟨Tryz.f243.name, by decide, Tryz.func243.trans (congrArg some (by kernel_rfl))⟩
  f24 := ⟨Tryz.f244.name, by decide, Tryz.func244.trans (congrArg some (by kernel_rfl))⟩
  f25 := ⟨Tryz.f245.name, by decide, Tryz.func245.trans (congrArg some (by kernel_rfl))⟩
  f26 := ⟨Tryz.f246.name, by decide, Tryz.func246.trans (congrArg some (by kernel_rfl))⟩
  f27 := ⟨Tryz.f247.name, by decide, Tryz.func247.trans (congrArg some (by kernel_rfl))⟩
  f28 := ⟨Tryz.f248.name, by decide, Tryz.func248.trans (congrArg some (by kernel_rfl))⟩
  f29 := ⟨Tryz.f249.name, by decide, Tryz.func249.trans (congrArg some (by kernel_rfl))⟩
  f31 := Tryz.func281.trans (congrArg some (by kernel_rfl))
  f32 := Tryz.func282.trans (congrArg some (by kernel_rfl))
  f36 := ⟨Tryz.f280.name, by decide, Tryz.func280.trans (congrArg some (by kernel_rfl))⟩
  f37 := ⟨Tryz.f283.name, by decide, Tryz.func283.trans (congrArg some (by kernel_rfl))⟩
  f38 := ⟨Tryz.f284.name, by decide, Tryz.func284.trans (congrArg some (by kernel_rfl))⟩
  f39 := ⟨Tryz.f202.name, by decide, Tryz.func202.trans (congrArg some (by kernel_rfl))⟩
  f41 := ⟨Tryz.f301.name, by decide, Tryz.func301.trans (congrArg some (by kernel_rfl))⟩
  t0 := Tryz.underlying0
  a0 := Tryz.isAgg0
  z0 := Tryz.sizeOf0
  v0 := Tryz.zeroValue0
  t3 := Tryz.underlying3
  a3 := Tryz.isAgg3
  z3 := Tryz.sizeOf3
  v3 := Tryz.zeroValue3
  t4 := Tryz.underlying4
  a4 := Tryz.isAgg4
  z4 := Tryz.sizeOf4
  v4 := Tryz.zeroValue4
  t5 := Tryz.underlying5
  a5 := Tryz.isAgg5
  z5 := Tryz.sizeOf5
  v5 := Tryz.zeroValue5
  t9 := Tryz.underlying9
  a9 := Tryz.isAgg9
  z9 := Tryz.sizeOf9
  v9 := Tryz.zeroValue9
  t26 := Tryz.underlying166
  a26 := Tryz.isAgg166
  z26 := Tryz.sizeOf166
  v26 := Tryz.zeroValue166
  t27 := Tryz.underlying166
  a27 := Tryz.isAgg166
  z27 := Tryz.sizeOf166
  v27 := Tryz.zeroValue166
  t29 := Tryz.underlying9
  a29 := Tryz.isAgg9
  z29 := Tryz.sizeOf9
  v29 := Tryz.zeroValue9
  t32 := Tryz.underlying235
  a32 := Tryz.isAgg235
  z32 := Tryz.sizeOf235
  v32 := Tryz.zeroValue235
  t35 := Tryz.underlying328
  a35 := Tryz.isAgg328
  z35 := Tryz.sizeOf328
  v35 := Tryz.zeroValue328
  t36 := Tryz.underlying329
  a36 := Tryz.isAgg329
  z36 := Tryz.sizeOf329
  v36 := Tryz.zeroValue329
  t41 := Tryz.underlying334
  a41 := Tryz.isAgg334
  z41 := Tryz.sizeOf334
  v41 := Tryz.zeroValue334
  t44 := Tryz.underlying337
  a44 := Tryz.isAgg337
  z44 := Tryz.sizeOf337
  v44 := Tryz.zeroValue337
  t46 := Tryz.underlying229
  a46 := Tryz.isAgg229
  z46 := Tryz.sizeOf229
  v46 := Tryz.zeroValue229
  t53 := Tryz.underlying356
  a53 := Tryz.isAgg356
  z53 := Tryz.sizeOf356
  v53 := Tryz.zeroValue356
  t57 := Tryz.underlying360
  a57 := Tryz.isAgg360
  z57 := Tryz.sizeOf360
  v57 := Tryz.zeroValue360
  t63 := Tryz.underlying374
  a63 := Tryz.isAgg374
  z63 := Tryz.sizeOf374
  v63 := Tryz.zeroValue374
  t64 := Tryz.underlying246
  a64 := Tryz.isAgg246
  z64 := Tryz.sizeOf246
  v64 := Tryz.zeroValue246 }
open Go.RowKit Go.Maps Go.Sort Go.Shelf


theorem Tryz.sorts196 (m : Nat) : AnyZ.SortsIn Tryz.prog Tryz.sorted196_ren Fence.wide m :=
  ⟨fun blk off cap ss W hH hblk hsz => callsIn_wide.2 (AnyM.slices_Sort_string Tryz.sort123 blk off cap ss W hH hblk hsz),
   fun p cap W => callsIn_wide.2 (AnyM.slices_Sort_string_none Tryz.sort123 p cap W)⟩

theorem Tryz.maps_Keys_197 (mb : Option Nat) (W : World) : CallsIn Fence.wide 5 Tryz.prog 197 #[.map mb] W fun e w' => e = .returned (.func (.func 253) #[] #[.pointer (some ⟨W.heap.size, 0, none⟩)]) ∧ w' = W.alloc (.cells #[.map mb] 175) :=
  AnyZ.keys_in Tryz.keys197 Fence.wide 5 trivial rfl mb W

set_option maxHeartbeats 1000000 in
theorem Tryz.slices_Sorted_keys_196_197 {H : Type} (b nn : Nat) (D0 : DataW H) (R : Value → Option (DataW H × List MemPlace)) (w : World) (hown : w.ownsMap Tryz.prog 9 R b nn D0) (hmax : Maps.size D0 ≤ maxLen) (hbytes : Maps.size D0 * 16 ≤ 140737488355328) :
    CallsIn Fence.wide 5 Tryz.prog 196 #[.func (.func 253) #[] #[.pointer (some ⟨w.heap.size, 0, none⟩)]] (w.alloc (.cells #[.map (some b)] 175)) fun e w' => ∃ (v : Value) (ss : List (List UInt8)), e = .returned v ∧ ss.Perm (strKeys D0) ∧
      w'.ownsRow (w.alloc (.cells #[.map (some b)] 175)).heap.size 9 1 v ss.length ((ss.mergeSort (fun x y => decide (x ≤ y))).map encStr) ∧ (v = .slice none 0 0 ↔ ss = []) ∧ Below (w.alloc (.cells #[.map (some b)] 175)).heap.size (w.alloc (.cells #[.map (some b)] 175)) w' := by
  have hbl := hown.lt
  have hseq : SeqGives Fence.wide 2 Tryz.prog 253 #[.pointer (some ⟨w.heap.size, 0, none⟩)] encStr (fun ss => ss.Perm (strKeys D0)) (Maps.size D0) (w.alloc (.cells #[.map (some b)] 175)) :=
    AnyZ.keys_gives (ρ := Tryz.keys197_ren) { Tryz.keys197 with } Fence.wide _ trivial rfl (by omega) w.heap.size b nn D0 _ (by simp) (by simp) (by
      obtain ⟨es, clock, hb, Ft, hs, hD⟩ := hown
      exact ⟨es, clock, (Below.heap_alloc _ _ b hbl).trans hb, Ft, hs, hD⟩)
  exact AnyZ.sorted_in Tryz.sorted196 Fence.wide 5 trivial trivial trivial trivial rfl (by omega) (Tryz.sorts196 _) (enters_of Tryz.func123 (by kernel_rfl) rfl) 253 #[.pointer (some ⟨w.heap.size, 0, none⟩)] trivial (enters_of Tryz.func253 (by kernel_rfl) rfl) _ _ hmax hbytes _ hseq

set_option maxHeartbeats 1000000 in
theorem Tryz.slices_Sorted_keys_nil_196_197 (w : World) :
    CallsIn Fence.wide 5 Tryz.prog 196 #[.func (.func 253) #[] #[.pointer (some ⟨w.heap.size, 0, none⟩)]] (w.alloc (.cells #[.map none] 175)) fun e w' => ∃ (v : Value) (ss : List (List UInt8)), e = .returned v ∧ ss = [] ∧
      w'.ownsRow (w.alloc (.cells #[.map none] 175)).heap.size 9 1 v ss.length ((ss.mergeSort (fun x y => decide (x ≤ y))).map encStr) ∧ (v = .slice none 0 0 ↔ ss = []) ∧ Below (w.alloc (.cells #[.map none] 175)).heap.size (w.alloc (.cells #[.map none] 175)) w' := by
  have hseq : SeqGives Fence.wide 2 Tryz.prog 253 #[.pointer (some ⟨w.heap.size, 0, none⟩)] encStr (fun ss : List (List UInt8) => ss = []) 0 (w.alloc (.cells #[.map none] 175)) :=
    AnyZ.keys_gives_nil (ρ := Tryz.keys197_ren) { Tryz.keys197 with } Fence.wide _ trivial rfl w.heap.size _ (by simp) (by simp)
  exact AnyZ.sorted_in Tryz.sorted196 Fence.wide 5 trivial trivial trivial trivial rfl (by omega) (Tryz.sorts196 _) (enters_of Tryz.func123 (by kernel_rfl) rfl) 253 #[.pointer (some ⟨w.heap.size, 0, none⟩)] trivial (enters_of Tryz.func253 (by kernel_rfl) rfl) _ 0 (Nat.zero_le _) (by omega) _ hseq



end Go.Proofs
