/- The reference's Reader: Id. -/
import Derived.Test.YtlonihfhgfmplaaRr
namespace Go.Proofs.Ytlonihfhgfmplaa
open Go.RowKit

/-- The id of 32 bytes; of none: zeros. -/
def idOf (v : List UInt8) : Id32 := if h : v.length = 32 then ⟨v, h⟩ else id0
def idA (v : List UInt8) (k : Nat) : Array Value := ((v.take k).map byteC ++ List.replicate (32 - k) (Value.int .u8 0)).toArray
theorem idA_zero (v : List UInt8) : idA v 0 = idC id0 := by unfold idA; simp [idC]; rfl
theorem idA_size (v : List UInt8) (k : Nat) (hk : k ≤ v.length) (h32 : k ≤ 32) : (idA v k).size = 32 := by unfold idA; simp; omega
theorem idA_set (v : List UInt8) (k : Nat) (hk : k < v.length) (h32 : k < 32) : (idA v k).setIfInBounds k (.int .u8 (v[k]).toNat) = idA v (k + 1) := by
  unfold idA
  apply Array.ext'
  rw [Array.toList_setIfInBounds]
  have e : v.take (k + 1) = v.take k ++ [v[k]] := by rw [List.take_add_one, List.getElem?_eq_getElem hk]; rfl
  have e2 : 32 - k = (32 - (k + 1)) + 1 := by omega
  have e3 : ((v.take k).map byteC).length = k := by simp; omega
  rw [e, e2, List.replicate_succ, List.set_append_right _ _ (by rw [e3]; exact Nat.le_refl _), e3, Nat.sub_self, List.map_append]
  simp [byteC]
theorem idA_full (v : List UInt8) (h : v.length = 32 ∨ v = []) : idA v v.length = idC (idOf v) := by
  rcases h with h | h
  · unfold idA idOf; rw [dif_pos h, List.take_length, h]; simp [idC]
  · subst h; rw [show ([] : List UInt8).length = 0 from rfl, idA_zero]; rfl
theorem rawV_32 (l : List UInt8) (e : Int) : (rawV 32 l e).length = 32 ∨ rawV 32 l e = [] := by
  unfold rawV; split
  · left; rename_i h; rw [List.length_take]; omega
  · exact .inr rfl

theorem run_stS_at {P : Program} {t : TypeId} {k : Nat} (hi : (P.info? t).map (·.size) = some k) (w : World) (g : Nat) (z cs : Array Value) (e : TypeId) (h : w.heap[g]? = some (.cells z e (0, 0))) (hz : z.size = k) (hc : cs.size = k) (h1 : ∀ u ∈ cs.toList, u.oneCell' = true) :
    (stS t ⟨g, 0, none⟩ (.agg cs)).run P w = .ok () (w.setRow g cs) := by
  unfold stS storeVar
  cases hinfo : P.info? t with
  | none => rw [hinfo] at hi; cases hi
  | some i =>
    rw [hinfo] at hi
    have hk : i.size = k := by simpa using hi
    have hst := run_storeCells_at P g 0 e cs.toList 0 z w h (by simp; omega) h1
    have hE : (z.toList.take (0 + 0) ++ cs.toList ++ z.toList.drop (0 + 0 + cs.toList.length)).toArray = cs := by
      rw [List.drop_of_length_le (by simp; omega)]
      simp
    rw [hE] at hst
    simp [Value.cells, sizeOf, typeInfo, hinfo, hk, hc]
    exact hst

set_option maxHeartbeats 1000000 in
theorem rr_id (w : World) (g : Nat) (l : List UInt8) (e : Int) (h : RrAt w g l e) :
    Calls Try.prog 61 #[.pointer (some ⟨g, 0, none⟩)] w fun en w' => en = .returned (.agg (idC (idOf (rawV 32 l e)))) ∧ RrStep w g (rawL 32 l e) (rawE 32 l e) w' := by
  have h32 := rawV_32 l e
  obtain ⟨v, hv⟩ : ∃ v, rawV 32 l e = v := ⟨_, rfl⟩
  have hb0 : Below w.heap.size w ((w.alloc (.cells (idC id0) 24)).alloc (.cells (idC id0) 24)) := ((Below.refl _ _).alloc (Nat.le_refl _) _).alloc (by simp) _
  have hg2 : ((w.alloc (.cells (idC id0) 24)).alloc (.cells (idC id0) 24)).heap[w.heap.size]? = some (.cells (idC id0) 24 (0, 0)) := by
    rw [Below.heap_alloc _ _ _ (by simp)]; exact heap_alloc_new w _
  have hg3 : ((w.alloc (.cells (idC id0) 24)).alloc (.cells (idC id0) 24)).heap[w.heap.size + 1]? = some (.cells (idC id0) 24 (0, 0)) := by
    have := heap_alloc_new (w.alloc (.cells (idC id0) 24)) (.cells (idC id0) 24)
    simpa using this
  have hgl := h.lt
  have cr := rr_raw _ g 32 l e (h.below hb0) (by omega)
  have hsz0 : ((w.alloc (.cells (idC id0) 24)).alloc (.cells (idC id0) 24)).heap.size = w.heap.size + 2 := by simp
  rw [hv] at cr h32 ⊢
  have Hv := Lib.hid hv
  have Hsz0 := Lib.hid hsz0
  clear hv hsz0
  go_enter Try.func61, Try.ntmps61
  go_wp2_with fail
  generalize (w.alloc (.cells (idC id0) 24)).alloc (.cells (idC id0) 24) = W at *
  refine cr.mono ?_; rintro en w1 ⟨rfl, hrr, hk1⟩
  have hs1 : w.heap.size + 2 ≤ w1.heap.size := by have := hk1.size; have := Hsz0.out; omega
  have hg2' := (hk1.block w.heap.size (by have := Hsz0.out; omega) (by simp; omega)).trans hg2
  have hg3' := (hk1.block (w.heap.size + 1) (by have := Hsz0.out; omega) (by simp; omega)).trans hg3
  have hms := mkB_size v
  have hv32 : v.length ≤ 32 := by rcases h32 with h | h <;> simp [h]
  have H32 := Lib.hid h32
  have Hg2 := Lib.hid hg2'
  have Hg3 := Lib.hid hg3'
  have Hk1 := Lib.hid (Keep.trans ((Keep.of_below hb0).mono (S' := [g]) (by simp)) hk1 (fun x hx => .inl hx))
  have Hrr := Lib.hid hrr
  clear h32 hg2 hg3 hg2' hg3' cr hk1 hb0 hrr h
  go_wp2_with fail
  go_loopw [5] (fun i wr => ∃ k : Nat, k ≤ v.length ∧ i = .int .i64 k ∧ Hid (wr.heap[w.heap.size + 1]? = some (.cells (idA v k) 24 (0, 0))) ∧ Keep [w.heap.size + 1] w1 wr) (fun i _ => 32 - (intOf i).toNat)
  case atStart => exact ⟨0, Nat.zero_le _, rfl, (show _ = _ by rw [idA_zero]; exact Hg3.out), Keep.refl _ _⟩
  case round =>
    obtain ⟨k, hk, rfl, hc, hkp⟩ := hrel
    by_cases hlt : k < v.length
    · have hsz := idA_size v k hk (by omega)
      have hst := idA_set v k hlt (by omega)
      have hck : wr.cell? ⟨w.heap.size + 1, k, none⟩ = some ((idA v k)[k]'(by rw [hsz]; omega)) := by
        rw [cell_of_row wr _ k _ _ _ hc.out, Array.getElem?_eq_getElem]
      have hfz : wr.frozen? ⟨w.heap.size + 1, k, none⟩ = false := by simp [World.frozen?, hc.out]
      have hkm : k < (mkB v).size := by rw [hms]; exact hlt
      have hge : (mkB v)[k]'hkm = v[k]'hlt := rfl
      obtain ⟨y, hy⟩ : ∃ y, v[k]'hlt = y := ⟨_, rfl⟩
      rw [hy] at hge hst
      obtain ⟨z, hz⟩ : ∃ z, (idA v k)[k]'(by rw [hsz]; omega) = z := ⟨_, rfl⟩
      rw [hz] at hck
      have Hst := Lib.hid hst
      clear hy hst hsz hz
      have hk32 : k < 32 := by omega
      go_wp2_with fail
      go_roundw
      case rel => exact ⟨k + 1, by omega, by go_num, (show _ = _ by rw [heap_setCell_same hc.out, Hst.out]), Keep.trans hkp (Keep.setCell wr ⟨w.heap.size + 1, k, none⟩ _) (by simp)⟩
      case measure => simp [intOf]; omega
    · have hkv : k = v.length := by omega
      have hfull := idA_full v H32.out
      have hc' := hc.out
      rw [hkv, hfull] at hc'
      have hrow : rowAt wr (w.heap.size + 1) 0 32 = some (idC (idOf v)) := by unfold rowAt; rw [hc']; simp [go_sem]
      have hg2 := (hkp.block w.heap.size (by omega) (by simp)).trans Hg2.out
      have hsto := run_stS_at (P := Try.prog) infoId wr w.heap.size (idC id0) (idC (idOf v)) _ hg2 (by simp) (by simp) (idC_one _)
      have hrow2 : rowAt (wr.setRow w.heap.size (idC (idOf v))) w.heap.size 0 32 = some (idC (idOf v)) := by
        unfold rowAt; rw [setRow_heap wr w.heap.size _ _ _ _ hg2]; simp [go_sem]
      have hkf : Keep [w.heap.size] wr (wr.setRow w.heap.size (idC (idOf v))) := ⟨rfl, rfl, rfl, by simp [World.setRow], fun x _ hx => setRow_other wr w.heap.size x _ (by simpa using hx)⟩
      have hkz := Keep.trans (hkp.mono (S' := [w.heap.size, w.heap.size + 1]) (by simp)) (hkf.mono (S' := [w.heap.size, w.heap.size + 1]) (by simp)) (fun x hx => .inl hx)
      have Hkz := Lib.hid hkz
      have Hfin := Lib.hid (setRow_heap wr w.heap.size _ (idC (idOf v)) _ _ hg2)
      clear hkf hkz hg2 hc' hc hfull hkv
      go_wp2_with fail
      have hr := Hrr.out.kept Hkz.out (by simp; omega)
      have hkk := Keep.trans Hk1.out Hkz.out (fun x hx => .inr (by simp at hx; omega))
      exact bodyPost_ret (results_cell_row Try.results61 _ _ w.heap.size 24 (idC (idOf v)) (0, 0) _ rfl Hfin.out Try.underlying24 rfl (by rw [idC_size]; exact infoId)) rfl ⟨rfl, hr, hkk⟩

end Go.Proofs.Ytlonihfhgfmplaa
