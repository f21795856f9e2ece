/- The reference Num (petrelref01): numbers and ids as bytes. -/
import Derived.Test.YtlonihfhgfmplaaOct
import Derived.LoopN
namespace Go.Proofs.Ytlonihfhgfmplaa
open Go.RowKit

def pow256 : Nat → Int | 0 => 1 | k + 1 => 256 * pow256 k

theorem beL_snoc (k n : Nat) : beL (k + 1) n = beL k (n / 256) ++ [UInt8.ofNat n] := by
  induction k generalizing n with
  | zero => simp [beL]
  | succ k ih =>
    have h1 := ih n
    show UInt8.ofNat (n / 256 ^ (k + 1)) :: beL (k + 1) n = (UInt8.ofNat (n / 256 / 256 ^ k) :: beL k (n / 256)) ++ [UInt8.ofNat n]
    rw [h1, Nat.pow_succ, Nat.mul_comm, ← Nat.div_div_eq_div_mul]
    rfl

theorem mk1 (w : World) : (Instr.makeSlice 100 (.int .i64 1) (.int .i64 1)).run Try.prog w = .ok (.slice (some ⟨w.heap.size, 0, none⟩) 1 1) (w.alloc (.cells #[.int .u8 0] 5)) := by kernel_rfl
theorem mk4 (w : World) : (Instr.makeSlice 100 (.int .i64 4) (.int .i64 4)).run Try.prog w = .ok (.slice (some ⟨w.heap.size, 0, none⟩) 4 4) (w.alloc (.cells #[.int .u8 0, .int .u8 0, .int .u8 0, .int .u8 0] 5)) := by kernel_rfl
theorem conv_bytes (w : World) (bs : List UInt8) (n : Nat) (hn : n = bs.length) (cs : Array Value) (hc : cs = (bs.map byteC).toArray) :
    (convert 100 9 (.slice (some ⟨w.heap.size, 0, none⟩) n n)).run Try.prog (w.alloc (.cells cs 5)) = .ok (.string ⟨bs.toArray⟩) (w.alloc (.cells cs 5)) := by
  subst hn; subst hc
  exact run_convert_bytes_back (P := Try.prog) _ 100 9 5 ⟨w.heap.size, 0, none⟩ bs.length bs Try.underlying100 Try.underlying5 Try.underlying9 (fun j hj => by simp [go_sem, byteC, hj])
theorem u8n (n : Nat) : ((n : Int) % 256) = ((UInt8.ofNat n).toNat : Int) := by simp
set_option maxHeartbeats 1000000 in
set_option maxRecDepth 100000 in
theorem rnum1 (n : Nat) (w : World) (h : n < 256) :
    Calls Try.prog 91 #[.int .i64 n, .int .i64 1] w fun e w' => e = .returned (.tuple #[.string ⟨(beL 1 n).toArray⟩, .int .i64 0]) ∧ Below w.heap.size w w' := by
  have hd1 : decide ((n : Int) < 0) = false := by simp
  have hd2 : decide (256 ≤ (n : Int)) = false := by simp; omega
  have hcv := conv_bytes w (beL 1 n) 1 rfl #[.int .u8 ((n : Int) % 256)] (by rw [u8n]; simp [beL, byteC])
  obtain ⟨bs, hbs⟩ : ∃ bs, beL 1 n = bs := ⟨_, rfl⟩
  rw [hbs] at hcv ⊢
  clear hbs
  have hmk := mk1
  go_enter Try.func91, Try.ntmps91
  go_wp2_with fail
  refine wp_loop_rounds 1 ?_
  rw [rounds_succ]
  go_wp2_with fail
  refine wp_loop_rounds 2 ?_
  rw [rounds_succ]
  go_wp2_with fail
  rw [rounds_succ]
  go_wp2_with fail
  go_ret2
  exact ⟨rfl, (Below.refl _ _).alloc (Nat.le_refl _) _⟩

set_option maxHeartbeats 1000000 in
set_option maxRecDepth 100000 in
theorem rnum4 (n : Nat) (w : World) (h : n < 4294967296) :
    Calls Try.prog 91 #[.int .i64 n, .int .i64 4] w fun e w' => e = .returned (.tuple #[.string ⟨(beL 4 n).toArray⟩, .int .i64 0]) ∧ Below w.heap.size w w' := by
  have hd1 : decide ((n : Int) < 0) = false := by simp
  have hd2 : decide (4294967296 ≤ (n : Int)) = false := by simp; omega
  have hcv := conv_bytes w (beL 4 n) 4 rfl #[.int .u8 ((n : Int) / 256 / 256 / 256 % 256), .int .u8 ((n : Int) / 256 / 256 % 256), .int .u8 ((n : Int) / 256 % 256), .int .u8 ((n : Int) % 256)] (by
    have e1 : (n : Int) / 256 = ((n / 256 : Nat) : Int) := by simp
    have e2 : ((n / 256 : Nat) : Int) / 256 = ((n / 256 / 256 : Nat) : Int) := by simp
    have e3 : ((n / 256 / 256 : Nat) : Int) / 256 = ((n / 256 / 256 / 256 : Nat) : Int) := by simp
    rw [e1, e2, e3, u8n, u8n, u8n, u8n, beL_snoc, beL_snoc, beL_snoc]
    simp [beL, byteC])
  obtain ⟨bs, hbs⟩ : ∃ bs, beL 4 n = bs := ⟨_, rfl⟩
  rw [hbs] at hcv ⊢
  clear hbs
  have hmk := mk4
  go_enter Try.func91, Try.ntmps91
  go_wp2_with fail
  refine wp_loop_rounds 4 ?_
  rw [rounds_succ]
  go_wp2_with fail
  rw [rounds_succ]
  go_wp2_with fail
  rw [rounds_succ]
  go_wp2_with fail
  rw [rounds_succ]
  go_wp2_with fail
  refine wp_loop_rounds 5 ?_
  rw [rounds_succ]
  go_wp2_with fail
  rw [rounds_succ]
  go_wp2_with fail
  rw [rounds_succ]
  go_wp2_with fail
  rw [rounds_succ]
  go_wp2_with fail
  rw [rounds_succ]
  go_wp2_with fail
  go_ret2
  exact ⟨rfl, (Below.refl _ _).alloc (Nat.le_refl _) _⟩

theorem rnumP (n M : Nat) (w : World) (hM : M = 1 ∨ M = 4) (h : n < 256 ^ M) :
    Calls Try.prog 91 #[.int .i64 n, .int .i64 M] w fun e w' => ∃ s : ByteArray, e = .returned (.tuple #[.string s, .int .i64 0]) ∧ s.size = M ∧ s.data.toList = beL M n ∧ Below w.heap.size w w' := by
  have c : Calls Try.prog 91 #[.int .i64 n, .int .i64 M] w fun e w' => e = .returned (.tuple #[.string ⟨(beL M n).toArray⟩, .int .i64 0]) ∧ Below w.heap.size w w' := by
    rcases hM with rfl | rfl
    · exact rnum1 n w h
    · exact rnum4 n w h
  exact c.mono fun _ _ ⟨he, hb⟩ => ⟨_, he, (by show (beL M n).toArray.size = M; simp [beL_length]), by simp, hb⟩

end Go.Proofs.Ytlonihfhgfmplaa
