/- The shelf's contracts on slices.Sorted(maps.Keys(m)) at this dump, laid by the kit's own tools (lay-iter, lay-plain). -/
import Derived.Shelf.SlIter.Nil
import Derived.Shelf.SortM.Plain
import Derived.Shelf.SortM.SortNone
import Derived.Ground.GgzProg
import Derived.Ground.SlgmProg
import Derived.Test.YtplpiicfkbpkaaaGreatDoorProg
namespace Go.Proofs
open Go.Shelf
def Tryz.keys226_ren : Go.Shelf.Ren := ⟨fun | 7 => 226 | 10 => 258 | n => n, fun | 23 => 83 | 26 => 9 | 3 => 114 | 28 => 288 | 0 => 0 | 27 => 287 | 33 => 93 | 4 => 4 | n => n, fun | n => n⟩
theorem Tryz.keys226 : Go.Proofs.SlLaysZ.n7 Tryz.prog Tryz.keys226_ren := {
  mixed := by kernel_rfl
  f7 := ⟨Tryz.f226.name, by decide, Tryz.func226.trans (congrArg some (by kernel_rfl))⟩
  f10 := ⟨Tryz.f258.name, by decide, Tryz.func258.trans (congrArg some (by kernel_rfl))⟩
  t0 := Tryz.underlying0
  a0 := Tryz.isAgg0
  z0 := Tryz.sizeOf0
  v0 := Tryz.zeroValue0
  t4 := Tryz.underlying4
  a4 := Tryz.isAgg4
  z4 := Tryz.sizeOf4
  v4 := Tryz.zeroValue4
  t23 := Tryz.underlying83
  a23 := Tryz.isAgg83
  z23 := Tryz.sizeOf83
  v23 := Tryz.zeroValue83
  t26 := Tryz.underlying9
  a26 := Tryz.isAgg9
  z26 := Tryz.sizeOf9
  v26 := Tryz.zeroValue9
  t27 := Tryz.underlying287
  a27 := Tryz.isAgg287
  z27 := Tryz.sizeOf287
  v27 := Tryz.zeroValue287
  t28 := Tryz.underlying288
  a28 := Tryz.isAgg288
  z28 := Tryz.sizeOf288
  v28 := Tryz.zeroValue288
  t33 := Tryz.underlying93
  a33 := Tryz.isAgg93
  z33 := Tryz.sizeOf93
  v33 := Tryz.zeroValue93 }
def Tryz.sorted225_ren : Go.Shelf.Ren := ⟨fun | 6 => 225 | 8 => 256 | 9 => 257 | 11 => 293 | 13 => 230 | 12 => 294 | 23 => 267 | 24 => 268 | 14 => 315 | 15 => 316 | 16 => 317 | 17 => 318 | 18 => 319 | 19 => 320 | 20 => 321 | 21 => 322 | 22 => 323 | 25 => 331 | 26 => 296 | 27 => 297 | 28 => 332 | 29 => 333 | 30 => 311 | 31 => 335 | n => n, fun | 26 => 9 | 28 => 288 | 24 => 69 | 0 => 0 | 3 => 3 | 37 => 195 | 48 => 188 | 50 => 280 | 4 => 4 | 40 => 360 | 39 => 359 | 45 => 241 | 5 => 5 | 9 => 9 | 51 => 389 | 55 => 393 | 57 => 411 | 58 => 412 | 33 => 93 | n => n, fun | n => n⟩
theorem Tryz.sorted225 : Go.Proofs.SlLaysZ.n6 Tryz.prog Tryz.sorted225_ren := {
  mixed := by kernel_rfl
  f6 := ⟨Tryz.f225.name, by decide, Tryz.func225.trans (congrArg some (by kernel_rfl))⟩
  f8 := ⟨Tryz.f256.name, by decide, Tryz.func256.trans (congrArg some (by kernel_rfl))⟩
  f11 := ⟨Tryz.f293.name, by decide, Tryz.func293.trans (congrArg some (by kernel_rfl))⟩
  t0 := Tryz.underlying0
  a0 := Tryz.isAgg0
  z0 := Tryz.sizeOf0
  v0 := Tryz.zeroValue0
  t24 := Tryz.underlying69
  a24 := Tryz.isAgg69
  z24 := Tryz.sizeOf69
  v24 := Tryz.zeroValue69
  t26 := Tryz.underlying9
  a26 := Tryz.isAgg9
  z26 := Tryz.sizeOf9
  v26 := Tryz.zeroValue9
  t28 := Tryz.underlying288
  a28 := Tryz.isAgg288
  z28 := Tryz.sizeOf288
  v28 := Tryz.zeroValue288
  i26 := by kernel_rfl }
def Tryz.sort257_ren : Go.Shelf.Ren := ⟨fun | 6 => 257 | 8 => 230 | 9 => 294 | 19 => 267 | 20 => 268 | 21 => 315 | 22 => 316 | 23 => 317 | 24 => 318 | 25 => 319 | 26 => 320 | 27 => 321 | 28 => 322 | 29 => 323 | 36 => 331 | 31 => 296 | 32 => 297 | 37 => 332 | 38 => 333 | 39 => 311 | 41 => 335 | n => n, fun | 27 => 69 | 29 => 9 | 3 => 3 | 32 => 195 | 26 => 69 | 0 => 0 | 44 => 188 | 46 => 280 | 4 => 4 | 36 => 360 | 35 => 359 | 41 => 241 | 5 => 5 | 9 => 9 | 53 => 389 | 57 => 393 | 63 => 411 | 64 => 412 | n => n, fun | n => n⟩
theorem Tryz.sort257 : Go.Proofs.SlLaysM.n6 Tryz.prog Tryz.sort257_ren := {
  mixed := by kernel_rfl
  f6 := ⟨Tryz.f257.name, by decide, Tryz.func257.trans (congrArg some (by kernel_rfl))⟩
  f8 := Tryz.func230.trans (congrArg some (by kernel_rfl))
  f9 := ⟨Tryz.f294.name, by decide, Tryz.func294.trans (congrArg some (by kernel_rfl))⟩
  f19 := Tryz.func267.trans (congrArg some (by kernel_rfl))
  f20 := Tryz.func268.trans (congrArg some (by kernel_rfl))
  f21 := ⟨Tryz.f315.name, by decide, Tryz.func315.trans (congrArg some (by kernel_rfl))⟩
  f22 := ⟨Tryz.f316.name, by decide, Tryz.func316.trans (congrArg some (by kernel_rfl))⟩
  f23 := ⟨Tryz.f317.name, by decide, Tryz.func317.trans (congrArg some (by kernel_rfl))⟩
  f24 := ⟨Tryz.f318.name, by decide, Tryz.func318.trans (congrArg some (by kernel_rfl))⟩
  f25 := ⟨Tryz.f319.name, by decide, Tryz.func319.trans (congrArg some (by kernel_rfl))⟩
  f26 := ⟨Tryz.f320.name, by decide, Tryz.func320.trans (congrArg some (by kernel_rfl))⟩
  f27 := ⟨Tryz.f321.name, by decide, Tryz.func321.trans (congrArg some (by kernel_rfl))⟩
  f28 := ⟨Tryz.f322.name, by decide, Tryz.func322.trans (congrArg some (by kernel_rfl))⟩
  f29 := ⟨Tryz.f323.name, by decide, Tryz.func323.trans (congrArg some (by kernel_rfl))⟩
  f31 := Tryz.func296.trans (congrArg some (by kernel_rfl))
  f32 := Tryz.func297.trans (congrArg some (by kernel_rfl))
  f36 := ⟨Tryz.f331.name, by decide, Tryz.func331.trans (congrArg some (by kernel_rfl))⟩
  f37 := ⟨Tryz.f332.name, by decide, Tryz.func332.trans (congrArg some (by kernel_rfl))⟩
  f38 := ⟨Tryz.f333.name, by decide, Tryz.func333.trans (congrArg some (by kernel_rfl))⟩
  f39 := ⟨Tryz.f311.name, by decide, Tryz.func311.trans (congrArg some (by kernel_rfl))⟩
  f41 := ⟨Tryz.f335.name, by decide, Tryz.func335.trans (congrArg some (by kernel_rfl))⟩
  t0 := Tryz.underlying0
  a0 := Tryz.isAgg0
  z0 := Tryz.sizeOf0
  v0 := Tryz.zeroValue0
  t3 := Tryz.underlying3
  a3 := Tryz.isAgg3
  z3 := Tryz.sizeOf3
  v3 := Tryz.zeroValue3
  t4 := Tryz.underlying4
  a4 := Tryz.isAgg4
  z4 := Tryz.sizeOf4
  v4 := Tryz.zeroValue4
  t5 := Tryz.underlying5
  a5 := Tryz.isAgg5
  z5 := Tryz.sizeOf5
  v5 := Tryz.zeroValue5
  t9 := Tryz.underlying9
  a9 := Tryz.isAgg9
  z9 := Tryz.sizeOf9
  v9 := Tryz.zeroValue9
  t26 := Tryz.underlying69
  a26 := Tryz.isAgg69
  z26 := Tryz.sizeOf69
  v26 := Tryz.zeroValue69
  t27 := Tryz.underlying69
  a27 := Tryz.isAgg69
  z27 := Tryz.sizeOf69
  v27 := Tryz.zeroValue69
  t29 := Tryz.underlying9
  a29 := Tryz.isAgg9
  z29 := Tryz.sizeOf9
  v29 := Tryz.zeroValue9
  t32 := Tryz.underlying195
  a32 := Tryz.isAgg195
  z32 := Tryz.sizeOf195
  v32 := Tryz.zeroValue195
  t35 := Tryz.underlying359
  a35 := Tryz.isAgg359
  z35 := Tryz.sizeOf359
  v35 := Tryz.zeroValue359
  t36 := Tryz.underlying360
  a36 := Tryz.isAgg360
  z36 := Tryz.sizeOf360
  v36 := Tryz.zeroValue360
  t41 := Tryz.underlying241
  a41 := Tryz.isAgg241
  z41 := Tryz.sizeOf241
  v41 := Tryz.zeroValue241
  t44 := Tryz.underlying188
  a44 := Tryz.isAgg188
  z44 := Tryz.sizeOf188
  v44 := Tryz.zeroValue188
  t46 := Tryz.underlying280
  a46 := Tryz.isAgg280
  z46 := Tryz.sizeOf280
  v46 := Tryz.zeroValue280
  t53 := Tryz.underlying389
  a53 := Tryz.isAgg389
  z53 := Tryz.sizeOf389
  v53 := Tryz.zeroValue389
  t57 := Tryz.underlying393
  a57 := Tryz.isAgg393
  z57 := Tryz.sizeOf393
  v57 := Tryz.zeroValue393
  t63 := Tryz.underlying411
  a63 := Tryz.isAgg411
  z63 := Tryz.sizeOf411
  v63 := Tryz.zeroValue411
  t64 := Tryz.underlying412
  a64 := Tryz.isAgg412
  z64 := Tryz.sizeOf412
  v64 := Tryz.zeroValue412 }
def Tryz.keys380_ren : Go.Shelf.Ren := ⟨fun | 7 => 380 | 10 => 381 | n => n, fun | 23 => 328 | 26 => 9 | 3 => 323 | 28 => 288 | 0 => 0 | 27 => 287 | 33 => 93 | 4 => 4 | n => n, fun | n => n⟩
theorem Tryz.keys380 : Go.Proofs.SlLaysZ.n7 Tryz.prog Tryz.keys380_ren := {
  mixed := by kernel_rfl
  f7 := ⟨Tryz.f380.name, by decide, Tryz.func380.trans (congrArg some (by kernel_rfl))⟩
  f10 := ⟨Tryz.f381.name, by decide, Tryz.func381.trans (congrArg some (by kernel_rfl))⟩
  t0 := Tryz.underlying0
  a0 := Tryz.isAgg0
  z0 := Tryz.sizeOf0
  v0 := Tryz.zeroValue0
  t4 := Tryz.underlying4
  a4 := Tryz.isAgg4
  z4 := Tryz.sizeOf4
  v4 := Tryz.zeroValue4
  t23 := Tryz.underlying328
  a23 := Tryz.isAgg328
  z23 := Tryz.sizeOf328
  v23 := Tryz.zeroValue328
  t26 := Tryz.underlying9
  a26 := Tryz.isAgg9
  z26 := Tryz.sizeOf9
  v26 := Tryz.zeroValue9
  t27 := Tryz.underlying287
  a27 := Tryz.isAgg287
  z27 := Tryz.sizeOf287
  v27 := Tryz.zeroValue287
  t28 := Tryz.underlying288
  a28 := Tryz.isAgg288
  z28 := Tryz.sizeOf288
  v28 := Tryz.zeroValue288
  t33 := Tryz.underlying93
  a33 := Tryz.isAgg93
  z33 := Tryz.sizeOf93
  v33 := Tryz.zeroValue93 }
open Go.RowKit Go.Maps Go.Sort Go.Shelf


theorem Tryz.sorts225 (m : Nat) : AnyZ.SortsIn Tryz.prog Tryz.sorted225_ren Fence.wide m :=
  ⟨fun blk off cap ss W hH hblk hsz => callsIn_wide.2 (AnyM.slices_Sort_string Tryz.sort257 blk off cap ss W hH hblk hsz),
   fun p cap W => callsIn_wide.2 (AnyM.slices_Sort_string_none Tryz.sort257 p cap W)⟩

theorem Tryz.maps_Keys_226 (mb : Option Nat) (W : World) : CallsIn Fence.wide 5 Tryz.prog 226 #[.map mb] W fun e w' => e = .returned (.func (.func 258) #[] #[.pointer (some ⟨W.heap.size, 0, none⟩)]) ∧ w' = W.alloc (.cells #[.map mb] 83) :=
  AnyZ.keys_in Tryz.keys226 Fence.wide 5 trivial rfl mb W

set_option maxHeartbeats 1000000 in
theorem Tryz.slices_Sorted_keys_225_226 {H : Type} (b nn : Nat) (D0 : DataW H) (R : Value → Option (DataW H × List MemPlace)) (w : World) (hown : w.ownsMap Tryz.prog 9 R b nn D0) (hmax : Maps.size D0 ≤ maxLen) (hbytes : Maps.size D0 * 16 ≤ 140737488355328) :
    CallsIn Fence.wide 5 Tryz.prog 225 #[.func (.func 258) #[] #[.pointer (some ⟨w.heap.size, 0, none⟩)]] (w.alloc (.cells #[.map (some b)] 83)) fun e w' => ∃ (v : Value) (ss : List (List UInt8)), e = .returned v ∧ ss.Perm (strKeys D0) ∧
      w'.ownsRow (w.alloc (.cells #[.map (some b)] 83)).heap.size 9 1 v ss.length ((ss.mergeSort (fun x y => decide (x ≤ y))).map encStr) ∧ (v = .slice none 0 0 ↔ ss = []) ∧ Below (w.alloc (.cells #[.map (some b)] 83)).heap.size (w.alloc (.cells #[.map (some b)] 83)) w' := by
  have hbl := hown.lt
  have hseq : SeqGives Fence.wide 2 Tryz.prog 258 #[.pointer (some ⟨w.heap.size, 0, none⟩)] encStr (fun ss => ss.Perm (strKeys D0)) (Maps.size D0) (w.alloc (.cells #[.map (some b)] 83)) :=
    AnyZ.keys_gives (ρ := Tryz.keys226_ren) { Tryz.keys226 with } Fence.wide _ trivial rfl (by omega) w.heap.size b nn D0 _ (by simp) (by simp) (by
      obtain ⟨es, clock, hb, Ft, hs, hD⟩ := hown
      exact ⟨es, clock, (Below.heap_alloc _ _ b hbl).trans hb, Ft, hs, hD⟩)
  exact AnyZ.sorted_in Tryz.sorted225 Fence.wide 5 trivial trivial trivial trivial rfl (by omega) (Tryz.sorts225 _) (enters_of Tryz.func257 (by kernel_rfl) rfl) 258 #[.pointer (some ⟨w.heap.size, 0, none⟩)] trivial (enters_of Tryz.func258 (by kernel_rfl) rfl) _ _ hmax hbytes _ hseq

set_option maxHeartbeats 1000000 in
theorem Tryz.slices_Sorted_keys_nil_225_226 (w : World) :
    CallsIn Fence.wide 5 Tryz.prog 225 #[.func (.func 258) #[] #[.pointer (some ⟨w.heap.size, 0, none⟩)]] (w.alloc (.cells #[.map none] 83)) fun e w' => ∃ (v : Value) (ss : List (List UInt8)), e = .returned v ∧ ss = [] ∧
      w'.ownsRow (w.alloc (.cells #[.map none] 83)).heap.size 9 1 v ss.length ((ss.mergeSort (fun x y => decide (x ≤ y))).map encStr) ∧ (v = .slice none 0 0 ↔ ss = []) ∧ Below (w.alloc (.cells #[.map none] 83)).heap.size (w.alloc (.cells #[.map none] 83)) w' := by
  have hseq : SeqGives Fence.wide 2 Tryz.prog 258 #[.pointer (some ⟨w.heap.size, 0, none⟩)] encStr (fun ss : List (List UInt8) => ss = []) 0 (w.alloc (.cells #[.map none] 83)) :=
    AnyZ.keys_gives_nil (ρ := Tryz.keys226_ren) { Tryz.keys226 with } Fence.wide _ trivial rfl w.heap.size _ (by simp) (by simp)
  exact AnyZ.sorted_in Tryz.sorted225 Fence.wide 5 trivial trivial trivial trivial rfl (by omega) (Tryz.sorts225 _) (enters_of Tryz.func257 (by kernel_rfl) rfl) 258 #[.pointer (some ⟨w.heap.size, 0, none⟩)] trivial (enters_of Tryz.func258 (by kernel_rfl) rfl) _ 0 (Nat.zero_le _) (by omega) _ hseq



theorem Tryz.maps_Keys_380 (mb : Option Nat) (W : World) : CallsIn Fence.wide 5 Tryz.prog 380 #[.map mb] W fun e w' => e = .returned (.func (.func 381) #[] #[.pointer (some ⟨W.heap.size, 0, none⟩)]) ∧ w' = W.alloc (.cells #[.map mb] 328) :=
  AnyZ.keys_in Tryz.keys380 Fence.wide 5 trivial rfl mb W

set_option maxHeartbeats 1000000 in
theorem Tryz.slices_Sorted_keys_225_380 {H : Type} (b nn : Nat) (D0 : DataW H) (R : Value → Option (DataW H × List MemPlace)) (w : World) (hown : w.ownsMap Tryz.prog 9 R b nn D0) (hmax : Maps.size D0 ≤ maxLen) (hbytes : Maps.size D0 * 16 ≤ 140737488355328) :
    CallsIn Fence.wide 5 Tryz.prog 225 #[.func (.func 381) #[] #[.pointer (some ⟨w.heap.size, 0, none⟩)]] (w.alloc (.cells #[.map (some b)] 328)) fun e w' => ∃ (v : Value) (ss : List (List UInt8)), e = .returned v ∧ ss.Perm (strKeys D0) ∧
      w'.ownsRow (w.alloc (.cells #[.map (some b)] 328)).heap.size 9 1 v ss.length ((ss.mergeSort (fun x y => decide (x ≤ y))).map encStr) ∧ (v = .slice none 0 0 ↔ ss = []) ∧ Below (w.alloc (.cells #[.map (some b)] 328)).heap.size (w.alloc (.cells #[.map (some b)] 328)) w' := by
  have hbl := hown.lt
  have hseq : SeqGives Fence.wide 2 Tryz.prog 381 #[.pointer (some ⟨w.heap.size, 0, none⟩)] encStr (fun ss => ss.Perm (strKeys D0)) (Maps.size D0) (w.alloc (.cells #[.map (some b)] 328)) :=
    AnyZ.keys_gives (ρ := Tryz.keys380_ren) { Tryz.keys380 with } Fence.wide _ trivial rfl (by omega) w.heap.size b nn D0 _ (by simp) (by simp) (by
      obtain ⟨es, clock, hb, Ft, hs, hD⟩ := hown
      exact ⟨es, clock, (Below.heap_alloc _ _ b hbl).trans hb, Ft, hs, hD⟩)
  exact AnyZ.sorted_in Tryz.sorted225 Fence.wide 5 trivial trivial trivial trivial rfl (by omega) (Tryz.sorts225 _) (enters_of Tryz.func257 (by kernel_rfl) rfl) 381 #[.pointer (some ⟨w.heap.size, 0, none⟩)] trivial (enters_of Tryz.func381 (by kernel_rfl) rfl) _ _ hmax hbytes _ hseq

set_option maxHeartbeats 1000000 in
theorem Tryz.slices_Sorted_keys_nil_225_380 (w : World) :
    CallsIn Fence.wide 5 Tryz.prog 225 #[.func (.func 381) #[] #[.pointer (some ⟨w.heap.size, 0, none⟩)]] (w.alloc (.cells #[.map none] 328)) fun e w' => ∃ (v : Value) (ss : List (List UInt8)), e = .returned v ∧ ss = [] ∧
      w'.ownsRow (w.alloc (.cells #[.map none] 328)).heap.size 9 1 v ss.length ((ss.mergeSort (fun x y => decide (x ≤ y))).map encStr) ∧ (v = .slice none 0 0 ↔ ss = []) ∧ Below (w.alloc (.cells #[.map none] 328)).heap.size (w.alloc (.cells #[.map none] 328)) w' := by
  have hseq : SeqGives Fence.wide 2 Tryz.prog 381 #[.pointer (some ⟨w.heap.size, 0, none⟩)] encStr (fun ss : List (List UInt8) => ss = []) 0 (w.alloc (.cells #[.map none] 328)) :=
    AnyZ.keys_gives_nil (ρ := Tryz.keys380_ren) { Tryz.keys380 with } Fence.wide _ trivial rfl w.heap.size _ (by simp) (by simp)
  exact AnyZ.sorted_in Tryz.sorted225 Fence.wide 5 trivial trivial trivial trivial rfl (by omega) (Tryz.sorts225 _) (enters_of Tryz.func257 (by kernel_rfl) rfl) 381 #[.pointer (some ⟨w.heap.size, 0, none⟩)] trivial (enters_of Tryz.func381 (by kernel_rfl) rfl) _ 0 (Nat.zero_le _) (by omega) _ hseq



end Go.Proofs
