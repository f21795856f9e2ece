/- Calls that came in: are they too many; is an id among ids. -/
import Derived.Test.YtlonihfhgfmplaaBagP
namespace Go.Proofs.Ytlonihfhgfmplaa
open Go.RowKit

abbrev ActsIn (w : World) (A : Option Addr) (n : Nat) (R : List Act) : Prop := SlR w A n 35 (R.map actC)
theorem ActsIn.get {w : World} {A : Option Addr} {n : Nat} {R : List Act} (h : ActsIn w A n R) {i : Nat} (hi : i < n) (hR : i < R.length) :
    ∃ g o, A = some ⟨g, o, none⟩ ∧ rowAt w g (o + i * 35) 35 = some (actC R[i]) ∧ w.cell? ⟨g, o + i * 35, none⟩ = some (.int .i64 (R[i]).k) ∧ rowAt w g (o + i * 35 + 1) 32 = some (idC (R[i]).tag) ∧ w.cell? ⟨g, o + i * 35 + 33, none⟩ = some (.string (R[i]).val) ∧
      w.cell? ⟨g, o + i * 35 + 34, none⟩ = some (.slice (R[i]).A (R[i]).n (R[i]).cap) := by
  obtain ⟨g, o, e, hr⟩ := SlR.at_ h hi
  rw [List.getElem_map] at hr
  refine ⟨g, o, e, hr, ?_, ?_, ?_, ?_⟩
  · have := rowAt_cell hr (j := 0) (by omega)
    unfold actC at this
    rwa [actVC_g0] at this
  · have := rowAt_sub hr (j := 1) (m := 32) (by omega)
    unfold actC at this
    rwa [actVC_e1] at this
  · have := rowAt_cell hr (j := 33) (by omega)
    unfold actC at this
    rwa [actVC_g33] at this
  · have := rowAt_cell hr (j := 34) (by omega)
    unfold actC at this
    rwa [actVC_g34] at this
theorem ActsIn.len {w : World} {A : Option Addr} {n : Nat} {R : List Act} (h : ActsIn w A n R) : R.length = n := by simpa using h.1
/-- Calls that came in, their tags too. -/
structure ActsOk (w : World) (A : Option Addr) (n : Nat) (R : List Act) : Prop where
  rows : ActsIn w A n R
  big : n ≤ 9223372036854775807
  each : ∀ a ∈ R, TagsIn w a.A a.n a.T ∧ a.val.size ≤ 9223372036854775807 ∧ a.n ≤ 9223372036854775807

def bmuchRes (w : World) (R : List Act) (e : Ending) (w' : World) : Prop := ∃ b, e = .returned (.bool b) ∧ (b = false → FewActs R) ∧ Below w.heap.size w w'
set_option maxHeartbeats 1000000 in
theorem bmuch (w : World) (A : Option Addr) (n cap : Nat) (R : List Act) (h : ActsOk w A n R) :
    Calls Try.prog 26 #[.slice A n cap] w (bmuchRes w R) := by
  have hlen := h.rows.len
  have hn := h.big
  have hrows := h.rows
  have hs := h.each
  go_enter Try.func26, Try.ntmps26
  go_wp2_with fail
  go_loopw [3] (fun i wr => ∃ k : Nat, k ≤ n ∧ k ≤ 30 ∧ i = .int .i64 k ∧ Hid (∀ j (hj : j < R.length), j < k → (R[j]).T.length ≤ 12 ∧ (R[j]).val.size ≤ 100) ∧ Below w.heap.size w wr) (fun i _ => n - (intOf i).toNat)
  case atStart => exact ⟨0, Nat.zero_le _, by omega, rfl, (show ∀ j (hj : j < R.length), j < 0 → _ from fun j _ h => absurd h (by omega)), Below.refl _ _⟩
  case round =>
    obtain ⟨k, hk, hk40, rfl, hd, hb⟩ := hrel
    by_cases hlt : k < n ∧ k < 30
    · obtain ⟨hlt, hlt40⟩ := hlt
      obtain ⟨g, o, rfl, hr, _, _, hval, htags⟩ := ActsIn.get (SlR.below hrows hb) hlt (by omega)
      have hsk := hs R[k] (List.getElem_mem (by omega))
      obtain ⟨x, hx⟩ : ∃ x, R[k]'(by omega) = x := ⟨_, rfl⟩
      have Hx := Lib.hid hx
      rw [hx] at htags hval hsk
      obtain ⟨s1, s2, s3⟩ := hsk
      have htl := s1.len
      clear hx hr s1
      by_cases h1 : 12 < x.n
      · go_wp2_with fail
        go_ret
        exact ⟨true, rfl, nofun, hb⟩
      · by_cases h2 : 100 < x.val.size
        · go_wp2_with fail
          go_ret
          exact ⟨true, rfl, nofun, hb⟩
        · have Htl := Lib.hid htl
          clear htl
          go_wp2_with fail
          go_roundw
          case rel =>
            refine ⟨k + 1, by omega, by omega, by go_num, (show ∀ j (hj : j < R.length), j < k + 1 → (R[j]).T.length ≤ 12 ∧ (R[j]).val.size ≤ 100 from fun j hj hjk => ?_), hb⟩
            by_cases e : j = k
            · subst e; rw [Hx.out, Htl.out]; exact ⟨by omega, by omega⟩
            · exact hd.out j hj (by omega)
          case measure => simp [intOf]; omega
    · have hko : ¬ k < n ∨ ¬ k < 30 := by omega
      have H : Hid (n ≤ 30 → ∀ x ∈ R, x.T.length ≤ 12 ∧ x.val.size ≤ 100) := by
        intro hn40 x hx
        obtain ⟨j, hj, rfl⟩ := List.mem_iff_getElem.1 hx
        exact hd.out j hj (by omega)
      have fin : ∀ b : Bool, (b = false → n ≤ 30) → bmuchRes w R (.returned (.bool b)) wr := fun b hb' => ⟨b, rfl, fun e => ⟨by have := hb' e; omega, H.out (hb' e)⟩, hb⟩
      have Fin := Lib.hid fin
      clear fin H hd
      by_cases h1 : k < n
      · have h2 : k = 30 := by omega
        subst h2
        go_wp2_with fail
        go_ret
        exact Fin.out _ (by simp <;> omega)
      · go_wp2_with fail
        go_ret
        exact Fin.out _ (by simp <;> omega)

set_option maxHeartbeats 1000000 in
/-- The reference's Has. -/
theorem rhas6 (w : World) (A : Option Addr) (n cap : Nat) (R : List Id32) (d : Id32) (h : TagsIn w A n R) (hn : n ≤ 9223372036854775807) :
    Calls Try.prog 34 #[.slice A n cap, .agg (idC d)] w fun e w' => e = .returned (.bool (decide (d ∈ R))) ∧ Below w.heap.size w w' := by
  have hlen := h.len
  have hB : Below w.heap.size w (w.alloc (.cells (idC d) 24)) := (Below.refl _ _).alloc (Nat.le_refl _) _
  have hd0 : rowAt (w.alloc (.cells (idC d) 24)) w.heap.size 0 32 = some (idC d) := by simp [go_sem]
  have Hlen := Lib.hid hlen
  clear hlen
  go_enter Try.func34, Try.ntmps34
  go_wp2_with fail
  generalize w.alloc (.cells (idC d) 24) = W at *
  go_loopw [5] (fun i wr => ∃ k : Nat, k ≤ n ∧ i = .int .i64 k ∧ Hid (d ∉ R.take k) ∧ Below W.heap.size W wr) (fun i _ => n - (intOf i).toNat)
  case atStart => exact ⟨0, Nat.zero_le _, rfl, (show d ∉ R.take 0 by simp), Below.refl _ _⟩
  case round =>
    obtain ⟨k, hk, rfl, hno, hb⟩ := hrel
    by_cases hlt : k < n
    · obtain ⟨q, o, rfl, hr⟩ := TagsIn.get (SlR.below (SlR.below h hB) hb) hlt (by rw [Hlen.out]; exact hlt)
      have hdr : rowAt wr w.heap.size 0 32 = some (idC d) := (rowAt_of_block (hb.block _ (rowAt_lt hd0)) _ _).trans hd0
      have htk : R.take (k + 1) = R.take k ++ [R[k]'(by rw [Hlen.out]; exact hlt)] := by rw [List.take_add_one, List.getElem?_eq_getElem (by rw [Hlen.out]; exact hlt)]; rfl
      have hmem : R[k]'(by rw [Hlen.out]; exact hlt) ∈ R := List.getElem_mem _
      obtain ⟨x, hx⟩ : ∃ x, R[k]'(by rw [Hlen.out]; exact hlt) = x := ⟨_, rfl⟩
      rw [hx] at hr htk hmem
      have Htk := Lib.hid htk
      have Hm := Lib.hid hmem
      clear hx htk hmem
      go_upto_region 4 with fail
      refine wp_region_lex (Bel wr) false (by kernel_rfl) (by kernel_rfl) (by kernel_rfl) (bel_drew wr) ?_
      have hne := bel_some wr
      have hS := bel_drew wr
      have b1 := sub_row hr; have b2 := sub_row hdr
      repeat (refine wpLx_loose ?_ ?_; (focus (simp only [chainOp]; done)); intro K hK; go_simp; refine hK _ ?_; clear hK K)
      refine wpLx_nil ?_
      intro hS
      clear hne hS b1 b2 hr hdr
      go_wp2_with fail
      · have he : (x == d) = true := by assumption
        have e : x = d := by simpa using he
        have Hin : Hid (decide (d ∈ R) = true) := decide_eq_true (by rw [← e]; exact Hm.out)
        clear e
        go_ret
        exact ⟨ret_bool (by rw [Hin.out]), hB.trans (hb.drew.mono hB.size)⟩
      · have he : (x == d) = false := by assumption
        have e : ¬ x = d := by simpa using he
        have hno' : Hid (d ∉ R.take (k + 1)) := by
          show _
          rw [Htk.out, List.mem_append, List.mem_singleton]
          rintro (h1 | h1)
          · exact hno.out h1
          · exact e h1.symm
        clear e
        go_roundw
        case rel => exact ⟨k + 1, by omega, by go_num, hno', hb.drew⟩
        case measure => simp [intOf]; omega
    · have hall : d ∉ R := by
        have := hno.out
        rwa [List.take_of_length_le (by rw [Hlen.out]; omega)] at this
      have Hn : Hid (decide (d ∈ R) = false) := decide_eq_false hall
      clear hall
      go_wp2_with fail
      go_ret
      exact ⟨ret_bool (by rw [Hn.out]), hB.trans (hb.mono hB.size)⟩

end Go.Proofs.Ytlonihfhgfmplaa
