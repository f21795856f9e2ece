/- Walks: cmp.Compare, cmp.Or, ident.Compare, the reference's Compare. -/
import Derived.Test.YtlonihfhgfmplaaOrd
namespace Go.Proofs.Ytlonihfhgfmplaa
open Go.RowKit

theorem nan_int (x : Int) (w : World) : Calls Try.prog 101 #[.int .i64 x] w fun e w' => e = .returned (.bool false) ∧ w = w' := by
  go_enter Try.func101, Try.ntmps101
  go_wp2_with fail
  go_ret
  exact ⟨ret_bool (by simp), rfl⟩
theorem nan_str (x : ByteArray) (w : World) : Calls Try.prog 103 #[.string x] w fun e w' => e = .returned (.bool false) ∧ w = w' := by
  go_enter Try.func103, Try.ntmps103
  go_wp2_with fail
  go_ret
  exact ⟨ret_bool (by simp), rfl⟩

theorem cmp_int (x y : Int) (w : World) : Calls Try.prog 82 #[.int .i64 x, .int .i64 y] w fun e w' => e = .returned (.int .i64 (cmpI x y)) ∧ w = w' := by
  go_enter Try.func82, Try.ntmps82
  go_wp2_with (go_at_call 101; refine (nan_int _ _).mono ?_; rintro e w' ⟨rfl, rfl⟩)
  all_goals
    go_ret
    exact ⟨ret_int (by unfold cmpI; first | rw [if_pos (by omega)] | rw [if_neg (by omega), if_pos (by omega)] | rw [if_neg (by omega), if_neg (by omega)]), rfl⟩

theorem cmp_str_h (x y : ByteArray) (b1 b2 : Bool) (h1 : Op.bytesLess x.toList y.toList = b1) (h2 : (x.toList == y.toList) = b2) (w : World) :
    Calls Try.prog 84 #[.string x, .string y] w fun e w' => e = .returned (.int .i64 (if b1 = true then -1 else if b2 = true then 0 else 1)) ∧ w = w' := by
  go_enter Try.func84, Try.ntmps84
  go_wp2_with (go_at_call 103; refine (nan_str _ _).mono ?_; rintro e w' ⟨rfl, rfl⟩)
  all_goals
    go_ret
    exact ⟨ret_int (by simp_all), rfl⟩
theorem cmp_str (x y : ByteArray) (w : World) : Calls Try.prog 84 #[.string x, .string y] w fun e w' => e = .returned (.int .i64 (cmpS x y)) ∧ w = w' := by
  have hlt : Op.bytesLess x.toList y.toList = decide (cmpS x y < 0) := bytesLess_cmp _ _
  have heq : (x.toList == y.toList) = decide (cmpS x y = 0) := by
    rw [Bool.eq_iff_iff]; simp only [beq_iff_eq, decide_eq_true_eq, cmpS_zero, toList_inj]
  refine (cmp_str_h x y _ _ hlt heq w).mono ?_
  rintro e w' ⟨rfl, rfl⟩
  refine ⟨ret_int ?_, rfl⟩
  rcases cmpS_range x y with h | h | h <;> rw [h] <;> rfl

/-- cmp.Or at a row of numbers. -/
theorem or_any (g cap : Nat) (L : List Int) (hL : L.length ≤ 9223372036854775807) (w : World) (hc : ∀ j, j < L.length → w.cell? ⟨g, j, none⟩ = some (.int .i64 (L.getD j 0))) :
    Calls Try.prog 81 #[.slice (some ⟨g, 0, none⟩) L.length cap] w fun e w' => e = .returned (.int .i64 (orL L)) ∧ w = w' := by
  have Hc := Lib.hid hc; clear hc
  go_enter Try.func81, Try.ntmps81
  go_wp2_with fail
  go_loop [5, 8] (fun _ i => ∃ k : Nat, k ≤ L.length ∧ i = .int .i64 k ∧ Hid (orL (L.drop k) = orL L)) (fun _ i => L.length - (intOf i).toNat)
  case atStart => exact ⟨0, Nat.zero_le _, rfl, rfl⟩
  case round =>
    obtain ⟨k, hk, rfl, hd⟩ := hrel
    by_cases hlt : k < L.length
    · have hcell := Hc.out k hlt
      have hdrop : L.drop k = L.getD k 0 :: L.drop (k + 1) := by
        rw [List.drop_eq_getElem_cons hlt]; simp [List.getD, hlt]
      by_cases hz : L.getD k 0 = 0
      · have hz' : (L.getD k 0 != 0) = false := by rw [bne_eq_false_iff_eq]; exact hz
        have hn : Hid (orL (L.drop (k + 1)) = orL L) := by
          show _ = _
          rw [← hd.out, hdrop]
          show _ = if L.getD k 0 = 0 then _ else _
          rw [if_pos hz]
        clear hz hdrop
        obtain ⟨x, hx⟩ : ∃ x : Int, L.getD k 0 = x := ⟨_, rfl⟩
        rw [hx] at hcell hz'
        have Hx := Lib.hid hx; clear hx
        go_wp2_with fail
        go_round
        case rel => exact ⟨k + 1, by omega, by go_num, hn⟩
        case measure => simp [intOf]; omega
      · have hz' : (L.getD k 0 != 0) = true := by rw [bne_iff_ne]; exact hz
        have hn : Hid (L.getD k 0 = orL L) := by
          show _ = _
          rw [← hd.out, hdrop]
          show _ = if L.getD k 0 = 0 then _ else _
          rw [if_neg hz]
        clear hz hdrop
        obtain ⟨x, hx⟩ : ∃ x : Int, L.getD k 0 = x := ⟨_, rfl⟩
        rw [hx] at hcell hz' hn
        have Hx := Lib.hid hx; clear hx
        go_wp2_with fail
        go_ret
        exact ⟨ret_int hn.out, rfl⟩
    · go_wp2_with fail
      go_ret
      have e : L.drop k = [] := List.drop_eq_nil_of_le (by omega)
      have h0 := hd.out
      rw [e] at h0
      exact ⟨ret_int h0, rfl⟩

theorem loadBytes_run (w : World) : ∀ (l : List UInt8) (a : Addr) (acc : ByteArray), (∀ j u, l[j]? = some u → w.cell? (a.add j) = some (.int .u8 u.toNat)) →
    (Extern.Bytes.loadBytes a l.length acc).run Try.prog w = .ok ⟨acc.data ++ l.toArray⟩ w
  | [], a, acc, _ => by simp [Extern.Bytes.loadBytes]
  | x :: l, a, acc, h => by
    have h0 : w.cell? a = some (.int .u8 x.toNat) := by
      have := h 0 x rfl
      simpa [Addr.add] using this
    have ih := loadBytes_run w l (a.add 1) (acc.push x) (fun j u hu => by
      have := h (j + 1) u (by simpa using hu)
      have e : (a.add 1).add j = a.add (j + 1) := by
        unfold Addr.add
        by_cases hj : j = 0 <;> simp [hj, Nat.add_assoc, Nat.add_comm 1 j]
      rw [e]; exact this)
    have ex : ((x.toNat : Int).toNat).toUInt8 = x := by simp
    simp only [List.length_cons, Extern.Bytes.loadBytes, Sem.run_bind, run_load, h0, Result.andThen_ok, ex]
    rw [ih]
    simp [ByteArray.push]

theorem byteCmp_run (w : World) (a b : Addr) (n m ca cb : Nat) (x y : List UInt8) (hn : x.length = n) (hm : y.length = m)
    (hx : ∀ j u, x[j]? = some u → w.cell? (a.add j) = some (.int .u8 u.toNat)) (hy : ∀ j u, y[j]? = some u → w.cell? (b.add j) = some (.int .u8 u.toNat)) :
    (Extern.BytealgCompare.compare #[.slice (some a) n ca, .slice (some b) m cb]).run Try.prog w = .ok (.int .i64 (cmpB x y)) w := by
  subst hn; subst hm
  have e1 := loadBytes_run w x a .empty hx
  have e2 := loadBytes_run w y b .empty hy
  change Sem.run Try.prog (do pure (goInt (Extern.BytealgCompare.cmp (← Extern.Bytes.loadBytes a x.length .empty) (← Extern.Bytes.loadBytes b y.length .empty)))) w = _
  simp only [Sem.run_bind, e1, e2, Result.andThen_ok, Sem.run_pure, goInt, Lib.cmp_eq]
  simp

theorem bytesCmp_any (a b : Addr) (n m ca cb : Nat) (x y : List UInt8) (w : World) (hn : x.length = n) (hm : y.length = m)
    (hx : ∀ j u, x[j]? = some u → w.cell? (a.add j) = some (.int .u8 u.toNat)) (hy : ∀ j u, y[j]? = some u → w.cell? (b.add j) = some (.int .u8 u.toNat)) :
    Calls Try.prog 102 #[.slice (some a) n ca, .slice (some b) m cb] w fun e w' => e = .returned (.int .i64 (cmpB x y)) ∧ w = w' := by
  have hr : (callFunc 120 #[.slice (some a) n ca, .slice (some b) m cb]).run Try.prog w = .ok (.value (.int .i64 (cmpB x y))) w := by
    rw [run_callFunc_extern Try.func120 (by kernel_rfl) (by kernel_rfl) (by kernel_rfl) (e := Extern.BytealgCompare.compare) (by kernel_rfl), byteCmp_run w a b n m ca cb x y hn hm hx hy]
    rfl
  clear hx hy hn hm
  go_enter Try.func102, Try.ntmps102
  go_wp2_with fail
  go_ret
  exact ⟨rfl, rfl⟩

theorem id_cells {w : World} {g o : Nat} {x : Id32} (h : rowAt w g o 32 = some (idC x)) : ∀ j u, x.l[j]? = some u → w.cell? ((⟨g, o, none⟩ : Addr).add j) = some (.int .u8 u.toNat) := by
  intro j u hu
  have hj : j < 32 := by
    have := (List.getElem?_eq_some_iff.1 hu).1
    rw [x.h] at this; exact this
  have hadd : (⟨g, o, none⟩ : Addr).add j = ⟨g, o + j, none⟩ := by unfold Addr.add; split <;> simp_all
  rw [hadd, rowAt_cell h hj, idC_get, if_pos hj]
  unfold idB
  rw [List.getD, hu]; rfl

set_option maxHeartbeats 400000 in
theorem cmp_id (x y : Id32) (w : World) : Calls Try.prog 83 #[.agg (idC x), .agg (idC y)] w fun e w' => e = .returned (.int .i64 (cmpId x y)) ∧ Below w.heap.size w w' := by
  have hB : Below w.heap.size w ((w.alloc (.cells (idC x) 24)).alloc (.cells (idC y) 24)) := ((Below.refl _ _).alloc (Nat.le_refl _) _).alloc (by simp) _
  have hx : rowAt ((w.alloc (.cells (idC x) 24)).alloc (.cells (idC y) 24)) w.heap.size 0 32 = some (idC x) := by simp [go_sem]
  have hy : rowAt ((w.alloc (.cells (idC x) 24)).alloc (.cells (idC y) 24)) (w.heap.size + 1) 0 32 = some (idC y) := by simp [go_sem]
  have hx := Lib.hid (id_cells hx)
  have hy := Lib.hid (id_cells hy)
  go_enter Try.func83, Try.ntmps83
  go_wp2_with fail
  · go_ret
    have h : (x == y) = true := by assumption
    have : x = y := by simpa using h
    subst this
    exact ⟨ret_int (cmpId_self x).symm, hB⟩
  · go_quiet ((go_at_call 102; exact quiet_eq (bytesCmp_any _ _ _ _ _ _ x.l y.l _ x.h y.h hx.out hy.out)))
    go_wp2_with fail
    go_ret
    exact ⟨rfl, below_drewN hB _⟩

end Go.Proofs.Ytlonihfhgfmplaa
