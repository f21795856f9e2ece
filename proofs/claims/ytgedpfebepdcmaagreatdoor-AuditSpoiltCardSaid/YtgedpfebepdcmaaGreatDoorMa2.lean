/- Part 2 of the texts that lead to this claim: the walks of the functions and the plain law, in order. -/
import Derived.Test.YtgedpfebepdcmaaGreatDoorMa1
import Derived.WalkMore
import Derived.LoopN
namespace Go.Proofs.YtgedpfebepdcmaaGreatDoor
section
open Go.RowKit
def smallC (c : Int) : Bool:=(decide (97 ≤ c) && decide (c ≤ 122)) || (decide (48 ≤ c) && decide (c ≤ 57)) || decide (c = 45)
theorem smallC_of {c : Int} {b : Bool} (h : b = smallC c) : Ending.returned (.bool b) = .returned (.bool (smallC c)):=by rw [h]
set_option maxHeartbeats 400000 in
theorem small_any (c : Int) (w : World) :
    Calls Tryz.prog 117 #[.int .i32 c] w fun e w'=>e = .returned (.bool (smallC c)) ∧ w = w':=by
  go_enter Tryz.func117,Tryz.ntmps117
  go_wp2
  all_goals
    go_ret;exact ⟨smallC_of (by simp [smallC] at *;omega),rfl⟩
def letterC (k : Int) : Int:=if k = 1 then 99 else if k = 2 then 115 else if k = 3 then 108 else if k = 4 then 109 else if k = 5 then 114 else 0
set_option maxHeartbeats 400000 in
theorem letter_any (k : Int) (w : World) :
    Calls Tryz.prog 87 #[.int .i64 k] w fun e w'=>e = .returned (.int .u8 (letterC k)) ∧ w = w':=by
  go_enter Tryz.func87,Tryz.ntmps87
  go_wp2
  all_goals
    go_ret;exact ⟨ret_int (by simp [letterC] at *;omega),rfl⟩
def tailB (s : ByteArray) (i : Nat) : Bool:=(List.range (s.size - i)).all fun j=>smallC (bt s (i + j))
theorem tailB_iff (s : ByteArray) (i : Nat) : tailB s i = true ↔ ∀ j,i ≤ j → j < s.size → smallC (bt s j) = true:=by
  simp only [tailB,List.all_eq_true,List.mem_range];constructor
  · intro h j h1 h2;have:=h (j - i) (by omega)
    rwa [show i + (j - i) = j by omega] at this
  · intro h j hj;exact h _ (by omega) (by omega)
theorem tailB_end (s : ByteArray) (i : Nat) (h : s.size ≤ i) : tailB s i = true:=(tailB_iff s i).2 fun j h1 h2=>by omega
theorem tailB_no (s : ByteArray) (i : Nat) (h : i < s.size) (h1 : smallC (bt s i) = false) : tailB s i = false:=by
  cases e : tailB s i with
  | false=>rfl
  | true=>rw [(tailB_iff s i).1 e i (Nat.le_refl _) h] at h1;cases h1
theorem tailB_yes (s : ByteArray) (i : Nat) (h1 : smallC (bt s i) = true) : tailB s (i + 1) = tailB s i:=by
  rw [Bool.eq_iff_iff,tailB_iff,tailB_iff];constructor
  · intro h j a b;by_cases e : j = i
    · subst e;exact h1
    · exact h j (by omega) b
  · intro h j a b;exact h j (by omega) b
def formedB (s : ByteArray) : Bool:=decide (2 ≤ s.size) && decide (s.size ≤ 12) && (bt s (s.size - 1) != 45) && tailB s 1
theorem smallC_high {c : Int} (h : 128 ≤ c) : smallC c = false:=by unfold smallC;simp;omega
theorem get_extract1 (s : ByteArray) (i : Nat) (h : i < (s.extract 1 s.size).size) : (((s.extract 1 s.size)[i]'h).toNat : Int) = bt s (i + 1):=by
  have hs : i + 1 < s.size:=by simp at h;omega
  rw [← bt_get hs];congr 2
  rw [ByteArray.getElem_extract];congr 1;omega
theorem decode_small (s : ByteArray) (i : Nat) (h : i < (s.extract 1 s.size).size) (hh : smallC (bt s (i + 1)) = true) :
    Utf8.decode (s.extract 1 s.size) i = ((bt s (i + 1)).toNat,1):=by
  have e:=get_extract1 s i h;have hlt : (((s.extract 1 s.size)[i]'h).toNat) < 128:=by
    rcases Nat.lt_or_ge ((s.extract 1 s.size)[i]'h).toNat 128 with g | g
    · exact g
    · rw [smallC_high (by omega)] at hh;cases hh
  rw [decode_ascii _ i h hlt,← e];simp
theorem decode_notsmall (s : ByteArray) (i : Nat) (h : i < (s.extract 1 s.size).size) (hh : smallC (bt s (i + 1)) = false) :
    smallC ((Utf8.decode (s.extract 1 s.size) i).1 : Int) = false:=by
  have e:=get_extract1 s i h;rcases Nat.lt_or_ge ((s.extract 1 s.size)[i]'h).toNat 128 with g | g
  · rw [decode_ascii _ i h g];rw [← e] at hh;exact hh
  · have:=(decode_high _ i h g).1;exact smallC_high (by omega)
theorem formedB_short (s : ByteArray) (h : ¬ (2 ≤ s.size ∧ s.size ≤ 12)) : formedB s = false:=by
  unfold formedB;by_cases h1 : 2 ≤ s.size <;> by_cases h2 : s.size ≤ 12 <;> simp [h1,h2];omega
theorem formedB_last (s : ByteArray) (h : bt s (s.size - 1) = 45) : formedB s = false:=by
  unfold formedB;simp [h]
theorem formedB_tail (s : ByteArray) (h1 : 2 ≤ s.size) (h2 : s.size ≤ 12) (h : bt s (s.size - 1) ≠ 45) : formedB s = tailB s 1:=by
  unfold formedB;simp [h1,h2,h]
set_option maxHeartbeats 400000 in
theorem formed_long (s : ByteArray) (w : World) (h : 2 ≤ s.size) (h1 : s.size ≤ 12) (h2 : bt s (s.size - 1) ≠ 45) :
    Calls Tryz.prog 86 #[.string s] w fun e w'=>e = .returned (.bool (formedB s)) ∧ Below w.heap.size w w':=by
  have h3 : (((s[s.size - 1]'(by omega)).toNat : Int) == 45) = false:=by
    rw [beq_eq_false_iff_ne];intro g;rw [bt_get (by omega)] at g;exact h2 g
  have hfin:=formedB_tail s h h1 h2;have H2:=Lib.hid hfin;clear h2 hfin;have hI : ∀ (p : Nat),Below w.heap.size w (w.iter (s.extract 1 s.size) p):=fun p=>(Below.refl _ _).alloc (Nat.le_refl _) _;have HI:=Lib.hid hI;clear hI;go_enter Tryz.func86,Tryz.ntmps86
  (go_wp2_with fail);go_loopw [] (fun wr=>∃ i : Nat,i + 1 ≤ s.size ∧ wr = w.iter (s.extract 1 s.size) i ∧ Hid (tailB s (i + 1) = tailB s 1)) (fun wr=>s.size - wr.iterPos w.heap.size)
  case atStart=>exact ⟨0,by omega,rfl,rfl⟩
  case round =>
    obtain ⟨i,hi,rfl,hc⟩:=hrel;have hsz : (s.extract 1 s.size).size = s.size - 1:=by simp
    by_cases hp : i < (s.extract 1 s.size).size
    · have hnx : ∀ ty,(Instr.next (.pointer (some ⟨w.heap.size,0,none⟩)) true ty).run Tryz.prog (w.iter (s.extract 1 s.size) i) = _:=fun ty=>run_next_any w (s.extract 1 s.size) i ty hp;cases hb : smallC (bt s (i + 1)) with
      | true =>
        rw [decode_small s i hp hb] at hnx;have e1 : (((bt s (i + 1)).toNat : Nat) : Int) = bt s (i + 1):=by have:=bt_nonneg s (i + 1);omega
        simp only [e1] at hnx;have Hb:=Lib.hid hb;go_wp2_with (go_at_call 117;refine (small_any _ _).mono ?_;rintro e w' ⟨rfl,rfl⟩)
        go_roundw
        case rel=>exact ⟨i + 1,by omega,rfl,(tailB_yes s _ Hb.out).trans hc.out⟩
        case measure=>simp;omega
      | false =>
        have hd:=decode_notsmall s i hp hb;go_wp2_with (go_at_call 117;refine (small_any _ _).mono ?_;rintro e w' ⟨rfl,rfl⟩)
        go_ret;exact ⟨ret_bool (by rw [H2.out,← hc.out,tailB_no s _ (by omega) hb]),HI.out _⟩
    · have hnx : ∀ ty,(Instr.next (.pointer (some ⟨w.heap.size,0,none⟩)) true ty).run Tryz.prog (w.iter (s.extract 1 s.size) i) = _:=fun ty=>run_next_end w (s.extract 1 s.size) i ty hp;(go_wp2_with fail);go_ret;exact ⟨ret_bool (by rw [H2.out,← hc.out,tailB_end s _ (by omega)]),HI.out _⟩
set_option maxHeartbeats 400000 in
theorem formed_short (s : ByteArray) (w : World) (hs : s.size ≤ 9223372036854775807) (h : ¬ (2 ≤ s.size ∧ s.size ≤ 12)) :
    Calls Tryz.prog 86 #[.string s] w fun e w'=>e = .returned (.bool (formedB s)) ∧ Below w.heap.size w w':=by
  have H2:=Lib.hid (formedB_short s h);by_cases h1 : 2 ≤ s.size
  · have h4 : 12 < s.size:=by omega
    clear h;go_enter Tryz.func86,Tryz.ntmps86
    go_wp2_with fail
    all_goals
      go_ret;exact ⟨ret_bool H2.out.symm,Below.refl _ _⟩
  · clear h;go_enter Tryz.func86,Tryz.ntmps86
    go_wp2_with fail
    all_goals
      go_ret;exact ⟨ret_bool H2.out.symm,Below.refl _ _⟩
set_option maxHeartbeats 400000 in
theorem formed_last (s : ByteArray) (w : World) (h : 2 ≤ s.size) (h1 : s.size ≤ 12) (h2 : bt s (s.size - 1) = 45) :
    Calls Tryz.prog 86 #[.string s] w fun e w'=>e = .returned (.bool (formedB s)) ∧ Below w.heap.size w w':=by
  have h3 : (((s[s.size - 1]'(by omega)).toNat : Int) == 45) = true:=by
    rw [beq_iff_eq];rw [bt_get (by omega)];exact h2
  have H2:=Lib.hid (formedB_last s h2);clear h2;go_enter Tryz.func86,Tryz.ntmps86
  (go_wp2_with fail);go_ret;exact ⟨ret_bool H2.out.symm,Below.refl _ _⟩
theorem formed_any (s : ByteArray) (w : World) (hs : s.size ≤ 9223372036854775807) :
    Calls Tryz.prog 86 #[.string s] w fun e w'=>e = .returned (.bool (formedB s)) ∧ Below w.heap.size w w':=by
  by_cases h : 2 ≤ s.size ∧ s.size ≤ 12
  · by_cases h2 : bt s (s.size - 1) = 45
    · exact formed_last s w h.1 h.2 h2
    · exact formed_long s w h.1 h.2 h2
  · exact formed_short s w hs h
def kindC (c : Int) : Int:=if c = 99 then 1 else if c = 115 then 2 else if c = 108 then 3 else if c = 109 then 4 else if c = 114 then 5 else 0
def kindB (s : ByteArray) : Int:=if formedB s = true then kindC (bt s 0) else 0
theorem formedB_size {s : ByteArray} (h : formedB s = true) : 2 ≤ s.size ∧ s.size ≤ 12:=by
  unfold formedB at h;simp at h;omega
theorem kindC_hit {c k : Int} (h1 : 1 ≤ k) (h2 : k < 6) (h : letterC k = c) : kindC c = k:=by
  subst h;have : k = 1 ∨ k = 2 ∨ k = 3 ∨ k = 4 ∨ k = 5:=by omega
  rcases this with rfl | rfl | rfl | rfl | rfl <;> decide
theorem kindC_miss {c : Int} (h : ∀ j : Int,1 ≤ j → j < 6 → letterC j ≠ c) : kindC c = 0:=by
  have a:=h 1 (by omega) (by omega);have b:=h 2 (by omega) (by omega);have d:=h 3 (by omega) (by omega);have e:=h 4 (by omega) (by omega);have f:=h 5 (by omega) (by omega);simp [letterC] at a b d e f;unfold kindC;rw [if_neg (by omega),if_neg (by omega),if_neg (by omega),if_neg (by omega),if_neg (by omega)]
set_option maxHeartbeats 400000 in
theorem kind_no (s : ByteArray) (w : World) (hs : s.size ≤ 9223372036854775807) (h : formedB s = false) :
    Calls Tryz.prog 53 #[.string s] w fun e w'=>e = .returned (.int .i64 (kindB s)) ∧ Below w.heap.size w w':=by
  have H : Hid (kindB s = 0):=by show kindB s = 0;unfold kindB;rw [h];rfl
  go_enter Tryz.func53,Tryz.ntmps53
  (go_wp2_with fail);refine (formed_any _ _ hs).mono ?_;rintro e w1 ⟨rfl,hb⟩;(go_wp2_with fail);go_ret;exact ⟨ret_int H.out.symm,hb⟩
set_option maxHeartbeats 400000 in
theorem kind_yes (s : ByteArray) (w : World) (hs : s.size ≤ 9223372036854775807) (h : formedB s = true) :
    Calls Tryz.prog 53 #[.string s] w fun e w'=>e = .returned (.int .i64 (kindB s)) ∧ Below w.heap.size w w':=by
  have H : Hid (kindB s = kindC (bt s 0)):=by show kindB s = kindC (bt s 0);unfold kindB;rw [h];rfl
  have hsz:=formedB_size h;have h0 : (0 : Int) < s.size:=by omega
  have hg : ((s[0]'(by omega)).toNat : Int) = bt s 0:=bt_get (by omega);go_enter Tryz.func53,Tryz.ntmps53
  (go_wp2_with fail);refine (formed_any _ _ hs).mono ?_;rintro e w1 ⟨rfl,hb⟩;(go_wp2_with fail);go_loopw [3] (fun kv wr=>∃ k : Int,1 ≤ k ∧ k ≤ 6 ∧ kv = .int .i64 k ∧ Below w.heap.size w wr ∧ Hid (∀ j : Int,1 ≤ j → j < k → letterC j ≠ bt s 0)) (fun kv _=>(6 - intOf kv).toNat)
  case atStart=>exact ⟨1,by omega,by omega,rfl,hb,fun j h1 h2=>by omega⟩
  case round =>
    obtain ⟨k,hk1,hk2,rfl,hb1,hj⟩:=hrel;by_cases hk : k < 6
    · by_cases hl : letterC k = bt s 0
      · have hl' : (letterC k == bt s 0) = true:=by rw [beq_iff_eq];exact hl
        have Hl:=Lib.hid hl;clear hl;go_wp2_with fail
        go_quiet ((go_at_call 87;exact quiet_eq (letter_any _ _)))
        (go_wp2_with fail);go_ret;exact ⟨ret_int (by rw [H.out,kindC_hit hk1 hk Hl.out]),below_drewN hb1 _⟩
      · have hl' : (letterC k == bt s 0) = false:=by rw [beq_eq_false_iff_ne];exact hl
        have Hl:=Lib.hid hl;clear hl;go_wp2_with fail
        go_quiet ((go_at_call 87;exact quiet_eq (letter_any _ _)))
        (go_wp2_with fail);go_roundw
        case rel =>
          refine ⟨k + 1,by omega,by omega,rfl,below_drewN hb1 _,fun j h1 h2=>?_⟩;by_cases e : j = k
          · subst e;exact Hl.out
          · exact hj.out j h1 (by omega)
        case measure=>simp [intOf];omega
    · (go_wp2_with fail);go_ret;exact ⟨ret_int (by rw [H.out,kindC_miss (fun j h1 h2=>hj.out j h1 (by omega))]),hb1⟩
theorem kind_any (s : ByteArray) (w : World) (hs : s.size ≤ 9223372036854775807) :
    Calls Tryz.prog 53 #[.string s] w fun e w'=>e = .returned (.int .i64 (kindB s)) ∧ Below w.heap.size w w':=by
  cases h : formedB s with
  | true=>exact kind_yes s w hs h
  | false=>exact kind_no s w hs h
def checkB (s : ByteArray) : Int:=if kindB s = 0 then 9 else 0
set_option maxHeartbeats 400000 in
theorem check_any (s : ByteArray) (w : World) (hs : s.size ≤ 9223372036854775807) :
    Calls Tryz.prog 52 #[.string s] w fun e w'=>e = .returned (.int .i64 (checkB s)) ∧ Below w.heap.size w w':=by
  by_cases h : kindB s = 0
  · have h' : (kindB s == 0) = true:=by rw [beq_iff_eq];exact h
    have H : Hid (checkB s = 9):=by show checkB s = 9;unfold checkB;rw [if_pos h]
    clear h;go_enter Tryz.func52,Tryz.ntmps52
    (go_wp2_with fail);refine (kind_any _ _ hs).mono ?_;rintro e w1 ⟨rfl,hb⟩;(go_wp2_with fail);go_ret;exact ⟨ret_int H.out.symm,hb⟩
  · have h' : (kindB s == 0) = false:=by rw [beq_eq_false_iff_ne];exact h
    have H : Hid (checkB s = 0):=by show checkB s = 0;unfold checkB;rw [if_neg h]
    clear h;go_enter Tryz.func52,Tryz.ntmps52
    (go_wp2_with fail);refine (kind_any _ _ hs).mono ?_;rintro e w1 ⟨rfl,hb⟩;(go_wp2_with fail);go_ret;exact ⟨ret_int H.out.symm,hb⟩
end
section
open Go.RowKit
structure Hd where
  ps : Value
  ht : Int
  tp : ByteArray
  au : Int
  sq : Int
  sz : Int
  cm : Id32
def hdC (x : Hd) : Array Value:=#[x.ps] ++ #[.int .i64 x.ht] ++ #[.string x.tp] ++ #[.int .i64 x.au] ++ #[.int .i64 x.sq] ++ #[.int .i64 x.sz] ++ idC x.cm
@[simp] theorem hdC_size (x : Hd) : (hdC x).size = 38:=by simp [hdC]
@[go_sem] theorem hdC_g0 (x : Hd) : (hdC x)[0]? = some (x.ps):=by first | (simp [hdC,Array.getElem?_append];done) | (rw [show hdC x = ((#[] : Array Value)) ++ #[x.ps] ++ (#[.int .i64 x.ht] ++ #[.string x.tp] ++ #[.int .i64 x.au] ++ #[.int .i64 x.sq] ++ #[.int .i64 x.sz] ++ idC x.cm) from by apply Array.ext';simp [hdC]];exact arr_at _ _ _ _ (by simp))
@[go_sem] theorem hdC_gg0 (x : Hd) (h : 0 < (hdC x).size) : (hdC x)[0]'h = x.ps:=Option.some.inj ((Array.getElem?_eq_getElem h).symm.trans (hdC_g0 x))
@[go_sem] theorem hdC_g1 (x : Hd) : (hdC x)[1]? = some (.int .i64 x.ht):=by first | (simp [hdC,Array.getElem?_append];done) | (rw [show hdC x = (#[x.ps]) ++ #[.int .i64 x.ht] ++ (#[.string x.tp] ++ #[.int .i64 x.au] ++ #[.int .i64 x.sq] ++ #[.int .i64 x.sz] ++ idC x.cm) from by apply Array.ext';simp [hdC]];exact arr_at _ _ _ _ (by simp))
@[go_sem] theorem hdC_gg1 (x : Hd) (h : 1 < (hdC x).size) : (hdC x)[1]'h = .int .i64 x.ht:=Option.some.inj ((Array.getElem?_eq_getElem h).symm.trans (hdC_g1 x))
@[go_sem] theorem hdC_g2 (x : Hd) : (hdC x)[2]? = some (.string x.tp):=by first | (simp [hdC,Array.getElem?_append];done) | (rw [show hdC x = (#[x.ps] ++ #[.int .i64 x.ht]) ++ #[.string x.tp] ++ (#[.int .i64 x.au] ++ #[.int .i64 x.sq] ++ #[.int .i64 x.sz] ++ idC x.cm) from by apply Array.ext';simp [hdC]];exact arr_at _ _ _ _ (by simp))
@[go_sem] theorem hdC_g3 (x : Hd) : (hdC x)[3]? = some (.int .i64 x.au):=by first | (simp [hdC,Array.getElem?_append];done) | (rw [show hdC x = (#[x.ps] ++ #[.int .i64 x.ht] ++ #[.string x.tp]) ++ #[.int .i64 x.au] ++ (#[.int .i64 x.sq] ++ #[.int .i64 x.sz] ++ idC x.cm) from by apply Array.ext';simp [hdC]];exact arr_at _ _ _ _ (by simp))
@[go_sem] theorem hdC_g4 (x : Hd) : (hdC x)[4]? = some (.int .i64 x.sq):=by first | (simp [hdC,Array.getElem?_append];done) | (rw [show hdC x = (#[x.ps] ++ #[.int .i64 x.ht] ++ #[.string x.tp] ++ #[.int .i64 x.au]) ++ #[.int .i64 x.sq] ++ (#[.int .i64 x.sz] ++ idC x.cm) from by apply Array.ext';simp [hdC]];exact arr_at _ _ _ _ (by simp))
@[go_sem] theorem hdC_g5 (x : Hd) : (hdC x)[5]? = some (.int .i64 x.sz):=by first | (simp [hdC,Array.getElem?_append];done) | (rw [show hdC x = (#[x.ps] ++ #[.int .i64 x.ht] ++ #[.string x.tp] ++ #[.int .i64 x.au] ++ #[.int .i64 x.sq]) ++ #[.int .i64 x.sz] ++ (idC x.cm) from by apply Array.ext';simp [hdC]];exact arr_at _ _ _ _ (by simp))
@[go_sem] theorem hdC_e6 (x : Hd) : (hdC x).extract 6 38 = idC x.cm:=by
  have h : hdC x = (#[x.ps] ++ #[.int .i64 x.ht] ++ #[.string x.tp] ++ #[.int .i64 x.au] ++ #[.int .i64 x.sq] ++ #[.int .i64 x.sz]) ++ idC x.cm ++ ((#[] : Array Value)):=by first | (simp [hdC,Array.append_assoc];done) | (apply Array.ext';simp [hdC];done)
  rw [h];exact arr_mid _ _ _ _ _ (by simp) (by simp)
@[go_sem] theorem hdC_all (x : Hd) : (hdC x).extract 0 38 = hdC x:=by have:=Array.extract_size (xs:=hdC x);rwa [hdC_size] at this
theorem hdC_one (x : Hd) (hps : x.ps.oneCell' = true) : ∀ u ∈ (hdC x).toList,u.oneCell' = true:=by
  intro u hu;simp only [hdC,Array.toList_append,List.mem_append] at hu;rcases hu with (((((hu | hu) | hu) | hu) | hu) | hu) | hu
  · simp at hu;subst hu;exact hps
  · simp at hu;subst hu;rfl
  · simp at hu;subst hu;rfl
  · simp at hu;subst hu;rfl
  · simp at hu;subst hu;rfl
  · simp at hu;subst hu;rfl
  · exact idC_one _ u hu
def hd0 : Hd:=⟨(.slice none 0 0),0,⟨#[]⟩,0,0,0,id0⟩
theorem infoHd : (Tryz.prog.info? 30).map (·.size) = some 38:=by kernel_rfl
@[go_sem ↓] theorem zeroHd_run (w : World) : (zeroValue 30).run Tryz.prog w = .ok (.agg (hdC hd0)) w:=by
  have h : (Tryz.prog.info? 30).bind (·.zero) = some (.agg (hdC hd0)):=by kernel_rfl
  cases hi : Tryz.prog.info? 30 with
  | none=>rw [hi] at h;cases h
  | some i =>
    rw [hi] at h;have hz : i.zero = some (.agg (hdC hd0)):=h;simp [zeroValue,typeInfo,hi,hz]
@[go_sem ↓] theorem loadHd_rw (a : Addr) : loadVar 30 a = ldS 30 a:=rfl
@[go_sem ↓] theorem storeHd_rw (a : Addr) (v : Value) : storeVar 30 a v = stS 30 a v:=rfl
@[go_sem] theorem loadHd_run (w : World) (g o : Nat) : (ldS 30 ⟨g,o,none⟩).run Tryz.prog w = match rowAt w g o 38 with | some cs=>.ok (.agg cs) w | none=>(loadVar 30 ⟨g,o,none⟩).run Tryz.prog w :=
  run_ldS Tryz.underlying30 rfl infoHd w g o
@[go_sem] theorem storeHd_run (w : World) (g : Nat) (hg : g = w.heap.size) (z : Array Value) (hz : z.size = 38) (x : Hd) (hps : x.ps.oneCell' = true) (e : TypeId) : (stS 30 ⟨g,0,none⟩ (.agg (hdC x))).run Tryz.prog (w.alloc (.cells z e)) = .ok () (w.alloc (.cells (hdC x) e)) :=
  hg ▸ run_stS_new infoHd w z (hdC x) hz (hdC_size x) (hdC_one x hps)
@[go_sem ↓] theorem buildHd_rw (parts : Array (Nat × Value)) : Instr.build 30 parts = bdS 30 parts:=rfl
@[go_sem ↓] theorem fieldHd_1 (x : Hd) (w : World) : (Instr.field 30 (.agg (hdC x)) 1).run Tryz.prog w = .ok (.int .i64 x.ht) w:=by
  unfold Instr.field;simp only [Sem.run_bind,run_underlying Tryz.underlying30,Result.andThen_ok,part,asAgg,isAgg];simp [go_sem]
structure HdV where
  ps : List Id32
  ht : Int
  tp : ByteArray
  au : Int
  sq : Int
  sz : Int
  cm : Id32
def hdO (h : HdV) (A : Option Addr) (c : Nat) : Hd:=⟨.slice A h.ps.length c,h.ht,h.tp,h.au,h.sq,h.sz,h.cm⟩
def hdE (h : HdV) : Int :=
  if 4 < h.ps.length then 6 else if risI h.ps = false then 4 else if h.ht < 1 ∨ 1073741824 < h.ht then 12
  else if (h.ps.length == 0) != (h.ht == 1) then 12 else if checkB h.tp ≠ 0 then 9
  else if h.au < 0 ∨ 255 < h.au then 5 else if h.sq < 1 ∨ 1073741824 < h.sq then 5 else if h.sz < 1 ∨ 512 < h.sz then 5 else 0
structure HdOk (h : HdV) : Prop where
  ps : h.ps.length ≤ 4
  ris : risI h.ps = true
  ht : 1 ≤ h.ht ∧ h.ht ≤ 1073741824
  one : (h.ps.length == 0) = (h.ht == 1)
  tp : checkB h.tp = 0
  au : 0 ≤ h.au ∧ h.au ≤ 255
  sq : 1 ≤ h.sq ∧ h.sq ≤ 1073741824
  sz : 1 ≤ h.sz ∧ h.sz ≤ 512
theorem hdE_ok {h : HdV} (e : hdE h = 0) : HdOk h:=by
  unfold hdE at e;split at e;· omega
  split at e;· omega
  split at e;· omega
  split at e;· omega
  split at e;· omega
  split at e;· omega
  split at e;· omega
  split at e;· omega
  rename_i h1 h2 h3 h4 h5 h6 h7 h8
  exact ⟨by omega,by simpa using h2,by omega,by simpa using h4,by omega,by omega,by omega,by omega⟩
def hdB (h : HdV) : List UInt8 :=
  beL 1 h.ps.length ++ h.ps.flatMap (·.l) ++ beL 4 h.ht.toNat ++ beL 1 h.tp.size ++ h.tp.data.toList ++ beL 1 h.au.toNat ++ beL 4 h.sq.toNat ++ beL 2 h.sz.toNat ++ h.cm.l
def hdI (h : HdV) : Id32:=if hdE h = 0 then shaI (hdB h) else id0
end
section
open Go.RowKit
theorem einfoId : ElemInfo Tryz.prog 26 24 32 32 :=
  .of (z:=.agg (idC id0)) Tryz.underlying26 (by kernel_rfl) (by kernel_rfl) (by kernel_rfl) (idC_size _) (by omega)
@[go_sem ↓] theorem bsId_rw (n : Nat) (parts : Array (Nat × Value)) : Instr.buildSlice 26 n parts = bsS 26 n parts:=rfl
@[go_sem] theorem bsId_run (w : World) (x : Id32) : (bsS 26 1 #[(0,.agg (idC x))]).run Tryz.prog w = .ok (.slice (some ⟨w.heap.size,0,none⟩) 1 1) (w.alloc (.cells (idC x) 24)) :=
  run_bsS1 einfoId (by omega) w (idC x) (idC_size x)
abbrev TagsIn (w : World) (A : Option Addr) (n : Nat) (R : List Id32) : Prop:=SlR w A n 32 (R.map idC)
theorem TagsIn.len {w : World} {A : Option Addr} {n : Nat} {R : List Id32} (h : TagsIn w A n R) : R.length = n:=by simpa using h.1
theorem TagsIn.get {w : World} {A : Option Addr} {n : Nat} {R : List Id32} (h : TagsIn w A n R) {i : Nat} (hi : i < n) (hR : i < R.length) : ∃ g o,A = some ⟨g,o,none⟩ ∧ rowAt w g (o + i * 32) 32 = some (idC R[i]):=by
  obtain ⟨g,o,e,hr⟩:=h.at_ hi;rw [List.getElem_map] at hr;exact ⟨g,o,e,hr⟩
end
section
open Go.RowKit
theorem loadBytes_run (w : World) : ∀ (l : List UInt8) (a : Addr) (acc : ByteArray),(∀ j u,l[j]? = some u → w.cell? (a.add j) = some (.int .u8 u.toNat)) →
    (Extern.Bytes.loadBytes a l.length acc).run Tryz.prog w = .ok ⟨acc.data ++ l.toArray⟩ w
  | [],a,acc,_=>by simp [Extern.Bytes.loadBytes]
  | x :: l,a,acc,h=>by
    have h0 : w.cell? a = some (.int .u8 x.toNat):=by
      have:=h 0 x rfl;simpa [Addr.add] using this
    have ih:=loadBytes_run w l (a.add 1) (acc.push x) (fun j u hu=>by
      have:=h (j + 1) u (by simpa using hu);have e : (a.add 1).add j = a.add (j + 1):=by
        unfold Addr.add;by_cases hj : j = 0 <;> simp [hj,Nat.add_assoc,Nat.add_comm 1 j]
      rw [e];exact this)
    have ex : ((x.toNat : Int).toNat).toUInt8 = x:=by simp
    simp only [List.length_cons,Extern.Bytes.loadBytes,Sem.run_bind,run_load,h0,Result.andThen_ok,ex];rw [ih];simp [ByteArray.push]
theorem byteCmp_run (w : World) (a b : Addr) (n m ca cb : Nat) (x y : List UInt8) (hn : x.length = n) (hm : y.length = m)
    (hx : ∀ j u,x[j]? = some u → w.cell? (a.add j) = some (.int .u8 u.toNat)) (hy : ∀ j u,y[j]? = some u → w.cell? (b.add j) = some (.int .u8 u.toNat)) :
    (Extern.BytealgCompare.compare #[.slice (some a) n ca,.slice (some b) m cb]).run Tryz.prog w = .ok (.int .i64 (cmpB x y)) w:=by
  subst hn;subst hm;have e1:=loadBytes_run w x a .empty hx;have e2:=loadBytes_run w y b .empty hy;change Sem.run Tryz.prog (do pure (goInt (Extern.BytealgCompare.cmp (← Extern.Bytes.loadBytes a x.length .empty) (← Extern.Bytes.loadBytes b y.length .empty)))) w = _;simp only [Sem.run_bind,e1,e2,Result.andThen_ok,Sem.run_pure,goInt,Lib.cmp_eq]
  simp
theorem bytesCmp_any (a b : Addr) (n m ca cb : Nat) (x y : List UInt8) (w : World) (hn : x.length = n) (hm : y.length = m)
    (hx : ∀ j u,x[j]? = some u → w.cell? (a.add j) = some (.int .u8 u.toNat)) (hy : ∀ j u,y[j]? = some u → w.cell? (b.add j) = some (.int .u8 u.toNat)) :
    Calls Tryz.prog 137 #[.slice (some a) n ca,.slice (some b) m cb] w fun e w'=>e = .returned (.int .i64 (cmpB x y)) ∧ w = w':=by
  have hr : (callFunc 163 #[.slice (some a) n ca,.slice (some b) m cb]).run Tryz.prog w = .ok (.value (.int .i64 (cmpB x y))) w:=by
    rw [run_callFunc_extern Tryz.func163 (by kernel_rfl) (by kernel_rfl) (by kernel_rfl) (e:=Extern.BytealgCompare.compare) (by kernel_rfl),byteCmp_run w a b n m ca cb x y hn hm hx hy];rfl
  clear hx hy hn hm;go_enter Tryz.func137,Tryz.ntmps137
  (go_wp2_with fail);go_ret;exact ⟨rfl,rfl⟩
theorem id_cells {w : World} {g o : Nat} {x : Id32} (h : rowAt w g o 32 = some (idC x)) : ∀ j u,x.l[j]? = some u → w.cell? ((⟨g,o,none⟩ : Addr).add j) = some (.int .u8 u.toNat):=by
  intro j u hu;have hj : j < 32:=by
    have:=(List.getElem?_eq_some_iff.1 hu).1;rw [x.h] at this;exact this
  have hadd : (⟨g,o,none⟩ : Addr).add j = ⟨g,o + j,none⟩:=by unfold Addr.add;split <;> simp_all
  rw [hadd,rowAt_cell h hj,idC_get,if_pos hj];unfold idB;rw [List.getD,hu];rfl
set_option maxHeartbeats 400000 in
theorem cmp_id (x y : Id32) (w : World) : Calls Tryz.prog 96 #[.agg (idC x),.agg (idC y)] w fun e w'=>e = .returned (.int .i64 (cmpId x y)) ∧ Below w.heap.size w w':=by
  have hB : Below w.heap.size w ((w.alloc (.cells (idC x) 24)).alloc (.cells (idC y) 24)):=((Below.refl _ _).alloc (Nat.le_refl _) _).alloc (by simp) _;have hx : rowAt ((w.alloc (.cells (idC x) 24)).alloc (.cells (idC y) 24)) w.heap.size 0 32 = some (idC x):=by simp [go_sem]
  have hy : rowAt ((w.alloc (.cells (idC x) 24)).alloc (.cells (idC y) 24)) (w.heap.size + 1) 0 32 = some (idC y):=by simp [go_sem]
  have hx:=Lib.hid (id_cells hx);have hy:=Lib.hid (id_cells hy);go_enter Tryz.func96,Tryz.ntmps96
  go_wp2_with fail
  · go_ret;have h : (x == y) = true:=by assumption
    have : x = y:=by simpa using h
    subst this;exact ⟨ret_int (cmpId_self x).symm,hB⟩
  · go_quiet ((go_at_call 137;exact quiet_eq (bytesCmp_any _ _ _ _ _ _ x.l y.l _ x.h y.h hx.out hy.out)))
    (go_wp2_with fail);go_ret;exact ⟨rfl,below_drewN hB _⟩
end
section
open Go.RowKit
set_option maxRecDepth 100000 in
set_option maxHeartbeats 1000000 in
theorem is_ids (w : World) (A : Option Addr) (n cap : Nat) (R : List Id32) (h : TagsIn w A n R) (hn : n ≤ 4294967296) :
    Calls Tryz.prog 156 #[.slice A n cap] w fun e w'=>e = .returned (.bool (risI R)) ∧ Below w.heap.size w w':=by
  have Hlen:=Lib.hid h.len;go_enter Tryz.func156,Tryz.ntmps156
  (go_wp2_with fail);go_loopw [3] (fun i wr=>∃ j : Nat,(j < n ∨ j = 0) ∧ i = .int .i64 ((j : Int) + 1) ∧ Hid (risI R = risI (R.drop j)) ∧ Below w.heap.size w wr) (fun i _=>n + 1 - (intOf i).toNat)
  case atStart=>exact ⟨0,.inr rfl,rfl,(show _ = _ from rfl),Below.refl _ _⟩
  case round =>
    obtain ⟨j,hj,rfl,hri,hb⟩:=hrel;by_cases hlt : j + 1 < n
    · have hR1 : j + 1 < R.length:=by rw [Hlen.out];exact hlt
      obtain ⟨q,o,rfl,hrow2⟩:=TagsIn.get (SlR.below h hb) hlt hR1;obtain ⟨q',o',hqe,hrow1⟩:=TagsIn.get (SlR.below h hb) (show j < n by omega) (show j < R.length by omega);injection hqe with hqe
      injection hqe with hq1 hq2
      subst hq1;subst hq2;have hri3 : risI R = (decide (cmpId (R[j]'(by omega)) (R[j + 1]'hR1) < 0) && risI (R.drop (j + 1))):=by
        rw [hri.out,List.drop_eq_getElem_cons (show j < R.length by omega),List.drop_eq_getElem_cons hR1];rfl
      obtain ⟨x,hx⟩ : ∃ x,R[j]'(by omega) = x:=⟨_,rfl⟩
      obtain ⟨y,hy⟩ : ∃ y,R[j + 1]'hR1 = y:=⟨_,rfl⟩
      rw [hx] at hrow1 hri3;rw [hy] at hrow2 hri3;clear hri hx hy hR1;have hlt2 : ((j : Int) + 1 < n):=by omega
      have w1' : IntKind.i64.wrap (j : Int) = j:=IntWalk.i64_in _ (by omega);have t1 : ((j : Int) + 1).toNat = j + 1:=by omega
      have t2 : (0 : Int) ≤ (j : Int) + 1:=by omega
      have t3 : (j : Int) < n:=by omega
      have t4 : j < n:=by omega
      have c2:=cmp_id x y wr.drew;by_cases hc : cmpId x y < 0
      · rw [decide_eq_true hc,Bool.true_and] at hri3;have Hri:=Lib.hid hri3;have hcb : ¬ (0 ≤ cmpId x y):=(by omega);obtain ⟨c,hcc⟩ : ∃ c,cmpId x y = c:=⟨_,rfl⟩;rw [hcc] at c2 hcb;clear hcc;clear hri3 hc;go_upto_region 4 with fail
        refine wp_region_lex (Bel wr) false (by kernel_rfl) (by kernel_rfl) (by kernel_rfl) (bel_drew wr) ?_;have hne:=bel_some wr;have hS:=bel_drew wr;have b1:=sub_row hrow1;have b2:=sub_row hrow2;repeat (refine wpLx_loose ?_ ?_;(focus (simp only [chainOp];done));intro K hK;go_simp;refine hK _ ?_;clear hK K)
        refine wpLx_chain ?_ ?_ ?_;(focus (exact hS));(focus (simp only [chainOp];done));intro K hK;go_simp;refine (c2).mono ?_;rintro e w' ⟨rfl,hb⟩;replace hS:=bel_next hS hb;refine ⟨_,rfl,hS,hK _ _ ?_⟩;clear hK K hb;repeat (refine wpLx_loose ?_ ?_;(focus (simp only [chainOp];done));intro K hK;go_simp;refine hK _ ?_;clear hK K)
        refine wpLx_nil ?_;intro hS;have hS' : Below wr.heap.size wr w':=hS;have hbz:=bel2 hb hS';clear b1 b2 hne hS hS' c2 w1';(go_wp2_with fail);go_roundw
        case rel=>exact ⟨j + 1,.inl hlt,by go_num,Hri,hbz⟩
        case measure=>simp [intOf];omega
      · rw [decide_eq_false hc,Bool.false_and] at hri3;have Hri:=Lib.hid hri3;have hcb : 0 ≤ cmpId x y:=(by omega);obtain ⟨c,hcc⟩ : ∃ c,cmpId x y = c:=⟨_,rfl⟩;rw [hcc] at c2 hcb;clear hcc;clear hri3 hc;go_upto_region 4 with fail
        refine wp_region_lex (Bel wr) false (by kernel_rfl) (by kernel_rfl) (by kernel_rfl) (bel_drew wr) ?_;have hne:=bel_some wr;have hS:=bel_drew wr;have b1:=sub_row hrow1;have b2:=sub_row hrow2;repeat (refine wpLx_loose ?_ ?_;(focus (simp only [chainOp];done));intro K hK;go_simp;refine hK _ ?_;clear hK K)
        refine wpLx_chain ?_ ?_ ?_;(focus (exact hS));(focus (simp only [chainOp];done));intro K hK;go_simp;refine (c2).mono ?_;rintro e w' ⟨rfl,hb⟩;replace hS:=bel_next hS hb;refine ⟨_,rfl,hS,hK _ _ ?_⟩;clear hK K hb;repeat (refine wpLx_loose ?_ ?_;(focus (simp only [chainOp];done));intro K hK;go_simp;refine hK _ ?_;clear hK K)
        refine wpLx_nil ?_;intro hS;have hS' : Below wr.heap.size wr w':=hS;have hbz:=bel2 hb hS';clear b1 b2 hne hS hS' c2 w1';(go_wp2_with fail);go_ret;exact ⟨ret_bool (by rw [Hri.out]),hbz⟩
    · have hrt : risI R = true:=by
        rw [hri.out];have hl1 : (R.drop j).length ≤ 1:=by rw [List.length_drop,Hlen.out];omega
        generalize R.drop j = Z at hl1
        match Z,hl1 with
        | [],_=>rfl
        | [_],_=>rfl
      have Hrt:=Lib.hid hrt;have hlt2 : decide ((j : Int) + 1 < n) = false:=by simp;omega
      have hlt3 : decide (j + 1 < n) = false:=by simp;omega
      clear hrt hri hlt hj;(go_wp2_with fail);go_ret;exact ⟨ret_bool (by rw [Hrt.out]),hb⟩
end
section
open Go.RowKit
structure HdAt (w : World) (b g : Nat) (h : HdV) (A : Option Addr) (c : Nat) : Prop where
  box : w.cell? ⟨b,0,none⟩ = some (.pointer (some ⟨g,0,none⟩))
  row : rowAt w g 0 38 = some (hdC (hdO h A c))
  ids : TagsIn w A h.ps.length h.ps
  len : h.ps.length ≤ 1000000
  tps : h.tp.size ≤ 9223372036854775807
theorem HdAt.below {w w' : World} {b g : Nat} {h : HdV} {A : Option Addr} {c : Nat} (x : HdAt w b g h A c) (hb : Below w.heap.size w w') : HdAt w' b g h A c :=
  ⟨(hb.cell (p:=⟨b,0,none⟩) (World.block_lt_of_cell? w _ x.box)).trans x.box,(rowAt_of_block (hb.block g (rowAt_lt x.row)) _ _).trans x.row,SlR.below x.ids hb,x.len,x.tps⟩
set_option maxRecDepth 100000 in
theorem hr_3 (w : World) (b g : Nat) (h : HdV) (A : Option Addr) (c : Nat) (hd : HdAt w b g h A c) :
    Calls Tryz.prog 167 #[.pointer (some ⟨b,0,none⟩)] w fun e w'=>e = .returned (.bool (decide (h.ht < 1 ∨ 1073741824 < h.ht))) ∧ Below w.heap.size w w':=by
  have xb:=hd.box;have x1:=rowAt_cell hd.row (j:=1) (by omega);simp only [hdC_g0,hdC_g1,hdC_g2,hdC_g3,hdC_g4,hdC_g5,Nat.zero_add,hdO] at x1;clear hd;by_cases a1 : h.ht < 1
  · have hb:=Lib.hid (decide_eq_true (Or.inl a1 : h.ht < 1 ∨ 1073741824 < h.ht));go_enter Tryz.func167,Tryz.ntmps167
    (go_wp2_with fail);go_ret;exact ⟨ret_bool (by first | rfl | (rw [hb.out]) | (simp;omega)),Below.refl _ _⟩
  · by_cases a2 : 1073741824 < h.ht
    · have hb:=Lib.hid (decide_eq_true (Or.inr a2 : h.ht < 1 ∨ 1073741824 < h.ht));go_enter Tryz.func167,Tryz.ntmps167
      (go_wp2_with fail);go_ret;exact ⟨ret_bool (by first | rfl | (rw [hb.out]) | (simp;omega)),Below.refl _ _⟩
    · have hb:=Lib.hid (decide_eq_false (fun h=>h.elim a1 a2 : ¬ (h.ht < 1 ∨ 1073741824 < h.ht)));go_enter Tryz.func167,Tryz.ntmps167
      (go_wp2_with fail);go_ret;exact ⟨ret_bool (by first | rfl | (rw [hb.out]) | (simp;omega)),Below.refl _ _⟩
set_option maxRecDepth 100000 in
theorem hr_6 (w : World) (b g : Nat) (h : HdV) (A : Option Addr) (c : Nat) (hd : HdAt w b g h A c) :
    Calls Tryz.prog 170 #[.pointer (some ⟨b,0,none⟩)] w fun e w'=>e = .returned (.bool (decide (h.au < 0 ∨ 255 < h.au))) ∧ Below w.heap.size w w':=by
  have xb:=hd.box;have x1:=rowAt_cell hd.row (j:=3) (by omega);simp only [hdC_g0,hdC_g1,hdC_g2,hdC_g3,hdC_g4,hdC_g5,Nat.zero_add,hdO] at x1;clear hd;by_cases a1 : h.au < 0
  · have hb:=Lib.hid (decide_eq_true (Or.inl a1 : h.au < 0 ∨ 255 < h.au));go_enter Tryz.func170,Tryz.ntmps170
    (go_wp2_with fail);go_ret;exact ⟨ret_bool (by first | rfl | (rw [hb.out]) | (simp;omega)),Below.refl _ _⟩
  · by_cases a2 : 255 < h.au
    · have hb:=Lib.hid (decide_eq_true (Or.inr a2 : h.au < 0 ∨ 255 < h.au));go_enter Tryz.func170,Tryz.ntmps170
      (go_wp2_with fail);go_ret;exact ⟨ret_bool (by first | rfl | (rw [hb.out]) | (simp;omega)),Below.refl _ _⟩
    · have hb:=Lib.hid (decide_eq_false (fun h=>h.elim a1 a2 : ¬ (h.au < 0 ∨ 255 < h.au)));go_enter Tryz.func170,Tryz.ntmps170
      (go_wp2_with fail);go_ret;exact ⟨ret_bool (by first | rfl | (rw [hb.out]) | (simp;omega)),Below.refl _ _⟩
set_option maxRecDepth 100000 in
theorem hr_7 (w : World) (b g : Nat) (h : HdV) (A : Option Addr) (c : Nat) (hd : HdAt w b g h A c) :
    Calls Tryz.prog 171 #[.pointer (some ⟨b,0,none⟩)] w fun e w'=>e = .returned (.bool (decide (h.sq < 1 ∨ 1073741824 < h.sq))) ∧ Below w.heap.size w w':=by
  have xb:=hd.box;have x1:=rowAt_cell hd.row (j:=4) (by omega);simp only [hdC_g0,hdC_g1,hdC_g2,hdC_g3,hdC_g4,hdC_g5,Nat.zero_add,hdO] at x1;clear hd;by_cases a1 : h.sq < 1
  · have hb:=Lib.hid (decide_eq_true (Or.inl a1 : h.sq < 1 ∨ 1073741824 < h.sq));go_enter Tryz.func171,Tryz.ntmps171
    (go_wp2_with fail);go_ret;exact ⟨ret_bool (by first | rfl | (rw [hb.out]) | (simp;omega)),Below.refl _ _⟩
  · by_cases a2 : 1073741824 < h.sq
    · have hb:=Lib.hid (decide_eq_true (Or.inr a2 : h.sq < 1 ∨ 1073741824 < h.sq));go_enter Tryz.func171,Tryz.ntmps171
      (go_wp2_with fail);go_ret;exact ⟨ret_bool (by first | rfl | (rw [hb.out]) | (simp;omega)),Below.refl _ _⟩
    · have hb:=Lib.hid (decide_eq_false (fun h=>h.elim a1 a2 : ¬ (h.sq < 1 ∨ 1073741824 < h.sq)));go_enter Tryz.func171,Tryz.ntmps171
      (go_wp2_with fail);go_ret;exact ⟨ret_bool (by first | rfl | (rw [hb.out]) | (simp;omega)),Below.refl _ _⟩
set_option maxRecDepth 100000 in
theorem hr_8 (w : World) (b g : Nat) (h : HdV) (A : Option Addr) (c : Nat) (hd : HdAt w b g h A c) :
    Calls Tryz.prog 172 #[.pointer (some ⟨b,0,none⟩)] w fun e w'=>e = .returned (.bool (decide (h.sz < 1 ∨ 512 < h.sz))) ∧ Below w.heap.size w w':=by
  have xb:=hd.box;have x1:=rowAt_cell hd.row (j:=5) (by omega);simp only [hdC_g0,hdC_g1,hdC_g2,hdC_g3,hdC_g4,hdC_g5,Nat.zero_add,hdO] at x1;clear hd;by_cases a1 : h.sz < 1
  · have hb:=Lib.hid (decide_eq_true (Or.inl a1 : h.sz < 1 ∨ 512 < h.sz));go_enter Tryz.func172,Tryz.ntmps172
    (go_wp2_with fail);go_ret;exact ⟨ret_bool (by first | rfl | (rw [hb.out]) | (simp;omega)),Below.refl _ _⟩
  · by_cases a2 : 512 < h.sz
    · have hb:=Lib.hid (decide_eq_true (Or.inr a2 : h.sz < 1 ∨ 512 < h.sz));go_enter Tryz.func172,Tryz.ntmps172
      (go_wp2_with fail);go_ret;exact ⟨ret_bool (by first | rfl | (rw [hb.out]) | (simp;omega)),Below.refl _ _⟩
    · have hb:=Lib.hid (decide_eq_false (fun h=>h.elim a1 a2 : ¬ (h.sz < 1 ∨ 512 < h.sz)));go_enter Tryz.func172,Tryz.ntmps172
      (go_wp2_with fail);go_ret;exact ⟨ret_bool (by first | rfl | (rw [hb.out]) | (simp;omega)),Below.refl _ _⟩
set_option maxRecDepth 100000 in
theorem hr_1 (w : World) (b g : Nat) (h : HdV) (A : Option Addr) (c : Nat) (hd : HdAt w b g h A c) :
    Calls Tryz.prog 165 #[.pointer (some ⟨b,0,none⟩)] w fun e w'=>e = .returned (.bool (decide (4 < h.ps.length))) ∧ Below w.heap.size w w':=by
  have xb:=hd.box;have x0:=rowAt_cell hd.row (j:=0) (by omega);simp only [hdC_g0,Nat.zero_add,hdO] at x0;have e : decide ((4 : Int) < (h.ps.length : Int)) = decide (4 < h.ps.length):=by rw [decide_eq_decide];omega
  have E:=Lib.hid e;clear hd e;go_enter Tryz.func165,Tryz.ntmps165
  (go_wp2_with fail);go_ret;exact ⟨ret_bool (by first | exact E.out | (rw [← E.out];rfl)),Below.refl _ _⟩
set_option maxRecDepth 100000 in
theorem hr_2 (w : World) (b g : Nat) (h : HdV) (A : Option Addr) (c : Nat) (hd : HdAt w b g h A c) :
    Calls Tryz.prog 166 #[.pointer (some ⟨b,0,none⟩)] w fun e w'=>e = .returned (.bool (!risI h.ps)) ∧ Below w.heap.size w w':=by
  have xb:=hd.box;have x0:=rowAt_cell hd.row (j:=0) (by omega);simp only [hdC_g0,Nat.zero_add,hdO] at x0;have ci:=is_ids w A h.ps.length c h.ps hd.ids (by have:=hd.len;omega);obtain ⟨r,hr⟩ : ∃ r,risI h.ps = r:=⟨_,rfl⟩
  rw [hr] at ci ⊢;clear hd hr;go_enter Tryz.func166,Tryz.ntmps166
  (go_wp2_with fail);refine ci.mono ?_;rintro e w2 ⟨rfl,hb⟩;(go_wp2_with fail);go_ret;exact ⟨rfl,hb⟩
set_option maxRecDepth 100000 in
theorem hr_4 (w : World) (b g : Nat) (h : HdV) (A : Option Addr) (c : Nat) (hd : HdAt w b g h A c) :
    Calls Tryz.prog 168 #[.pointer (some ⟨b,0,none⟩)] w fun e w'=>e = .returned (.bool ((h.ps.length == 0) != (h.ht == 1))) ∧ Below w.heap.size w w':=by
  have xb:=hd.box;have x0:=rowAt_cell hd.row (j:=0) (by omega);have x1:=rowAt_cell hd.row (j:=1) (by omega);simp only [hdC_g0,hdC_g1,Nat.zero_add,hdO] at x0 x1;have e : ((h.ps.length : Int) == 0) = (h.ps.length == 0):=by rw [Bool.eq_iff_iff];simp
  obtain ⟨p,hp⟩ : ∃ p : Bool,(h.ps.length == 0) = p:=⟨_,rfl⟩
  obtain ⟨q,hq⟩ : ∃ q : Bool,(h.ht == 1) = q:=⟨_,rfl⟩
  rw [hp] at e ⊢;rw [hq];clear hd hp;go_enter Tryz.func168,Tryz.ntmps168
  go_upto_region 1 with fail
  refine wp_region_lex (Bel w) false (by kernel_rfl) (by kernel_rfl) (by kernel_rfl) (bel_drew w) ?_;have hne:=bel_some w;have hS:=bel_drew w;have c0:=sub_cell xb;have c1:=sub_cell x0;have c2:=sub_cell x1;repeat (refine wpLx_loose ?_ ?_;(focus (simp only [chainOp];done));intro K hK;go_simp;refine hK _ ?_;clear hK K)
  refine wpLx_nil ?_;intro hS;have hS' : Below w.heap.size w w.drew:=hS;clear hS hne c0 c1 c2;(go_wp2_with fail);go_ret;exact ⟨ret_bool (by cases p <;> cases q <;> rfl),hS'⟩
set_option maxRecDepth 100000 in
theorem hr_5 (w : World) (b g : Nat) (h : HdV) (A : Option Addr) (c : Nat) (hd : HdAt w b g h A c) :
    Calls Tryz.prog 169 #[.pointer (some ⟨b,0,none⟩)] w fun e w'=>e = .returned (.bool (decide (checkB h.tp ≠ 0))) ∧ Below w.heap.size w w':=by
  have xb:=hd.box;have x2:=rowAt_cell hd.row (j:=2) (by omega);simp only [hdC_g2,Nat.zero_add,hdO] at x2;have ci:=check_any h.tp w hd.tps;obtain ⟨r,hr⟩ : ∃ r,checkB h.tp = r:=⟨_,rfl⟩
  rw [hr] at ci ⊢;have e : (r != 0) = decide (r ≠ 0):=by rw [Bool.eq_iff_iff];simp
  have E:=Lib.hid e;clear hd hr e;go_enter Tryz.func169,Tryz.ntmps169
  (go_wp2_with fail);refine ci.mono ?_;rintro e w2 ⟨rfl,hb⟩;(go_wp2_with fail);go_ret;exact ⟨ret_bool (by first | exact E.out | (rw [← E.out];rfl)),hb⟩
def ruleF (k : Nat) : FuncId:=[165,166,167,168,169,170,171,172].getD k 0
def ruleE (k : Nat) : Int:=[6,4,12,12,9,5,5,5].getD k 0
def ruleB (h : HdV) (k : Nat) : Bool:=[decide (4 < h.ps.length),!risI h.ps,decide (h.ht < 1 ∨ 1073741824 < h.ht),(h.ps.length == 0) != (h.ht == 1),decide (checkB h.tp ≠ 0),decide (h.au < 0 ∨ 255 < h.au),decide (h.sq < 1 ∨ 1073741824 < h.sq),decide (h.sz < 1 ∨ 512 < h.sz)].getD k false
theorem rule_any (w : World) (b g : Nat) (h : HdV) (A : Option Addr) (c : Nat) (hd : HdAt w b g h A c) (k : Nat) (hk : k < 8) :
    Calls Tryz.prog (ruleF k) #[.pointer (some ⟨b,0,none⟩)] w fun e w'=>e = .returned (.bool (ruleB h k)) ∧ Below w.heap.size w w':=by
  have h8 : k = 0 ∨ k = 1 ∨ k = 2 ∨ k = 3 ∨ k = 4 ∨ k = 5 ∨ k = 6 ∨ k = 7:=by omega
  rcases h8 with rfl | rfl | rfl | rfl | rfl | rfl | rfl | rfl
  · exact hr_1 w b g h A c hd
  · exact hr_2 w b g h A c hd
  · exact hr_3 w b g h A c hd
  · exact hr_4 w b g h A c hd
  · exact hr_5 w b g h A c hd
  · exact hr_6 w b g h A c hd
  · exact hr_7 w b g h A c hd
  · exact hr_8 w b g h A c hd
def firstE (h : HdV) : Nat → Int
  | 0=>0
  | n + 1=>if ruleB h (7 - n) = true then ruleE (7 - n) else firstE h n
theorem firstE_all (h : HdV) : firstE h 8 = hdE h:=by
  have e : firstE h 8 = if decide (4 < h.ps.length) = true then (6 : Int) else if (!risI h.ps) = true then 4 else if decide (h.ht < 1 ∨ 1073741824 < h.ht) = true then 12
    else if ((h.ps.length == 0) != (h.ht == 1)) = true then 12 else if decide (checkB h.tp ≠ 0) = true then 9 else if decide (h.au < 0 ∨ 255 < h.au) = true then 5
    else if decide (h.sq < 1 ∨ 1073741824 < h.sq) = true then 5 else if decide (h.sz < 1 ∨ 512 < h.sz) = true then 5 else 0:=rfl
  rw [e];unfold hdE;simp only [decide_eq_true_eq,Bool.not_eq_true']
theorem firstE_step (h : HdV) {k : Nat} (hk : k < 8) : firstE h (8 - k) = if ruleB h k = true then ruleE k else firstE h (8 - (k + 1)):=by
  obtain ⟨n,hn⟩ : ∃ n,8 - k = n + 1:=⟨7 - k,by omega⟩
  rw [hn,firstE,show 7 - n = k by omega,show 8 - (k + 1) = n by omega]
def ruleC (b k : Nat) : Array Value:=#[.func (.func (ruleF k)) #[] #[.pointer (some ⟨b,0,none⟩)],.int .i64 (ruleE k)]
def rulesC (b : Nat) : Array Value:=#[.func (.func 165) #[] #[.pointer (some ⟨b,0,none⟩)],.int .i64 6,.func (.func 166) #[] #[.pointer (some ⟨b,0,none⟩)],.int .i64 4,.func (.func 167) #[] #[.pointer (some ⟨b,0,none⟩)],.int .i64 12,.func (.func 168) #[] #[.pointer (some ⟨b,0,none⟩)],.int .i64 12,.func (.func 169) #[] #[.pointer (some ⟨b,0,none⟩)],.int .i64 9,.func (.func 170) #[] #[.pointer (some ⟨b,0,none⟩)],.int .i64 5,.func (.func 171) #[] #[.pointer (some ⟨b,0,none⟩)],.int .i64 5,.func (.func 172) #[] #[.pointer (some ⟨b,0,none⟩)],.int .i64 5]
theorem rulesC_row (b k : Nat) (hk : k < 8) : (rulesC b).extract (k * 2) (k * 2 + 2) = ruleC b k:=by
  have h8 : k = 0 ∨ k = 1 ∨ k = 2 ∨ k = 3 ∨ k = 4 ∨ k = 5 ∨ k = 6 ∨ k = 7:=by omega
  rcases h8 with rfl | rfl | rfl | rfl | rfl | rfl | rfl | rfl <;> (simp [rulesC,ruleC,ruleF,ruleE])
set_option maxRecDepth 100000 in
theorem rules_any (w : World) (q : Addr) :
    Calls Tryz.prog 140 #[.pointer (some q)] w fun e w'=>e = .returned (.slice (some ⟨w.heap.size + 1,0,none⟩) 8 8) ∧ w' = (w.alloc (.cells #[.pointer (some q)] 221)).alloc (.cells (rulesC w.heap.size) 223):=by
  go_enter Tryz.func140,Tryz.ntmps140
  (go_wp2_with fail);go_ret;exact ⟨rfl,by unfold rulesC;rfl⟩
theorem call_rule0 (args : Array Value) (w : World) : ∀ k,k < 8 → (callFunc (ruleF k) args).run Tryz.prog w = .ok (.enter (ruleF k) args) w
  | 0,_=>by kernel_rfl
  | 1,_=>by kernel_rfl
  | 2,_=>by kernel_rfl
  | 3,_=>by kernel_rfl
  | 4,_=>by kernel_rfl
  | 5,_=>by kernel_rfl
  | 6,_=>by kernel_rfl
  | 7,_=>by kernel_rfl
  | k + 8,h=>absurd h (by omega)
theorem call_rule (k : Nat) (hk : k < 8) (args : Array Value) (w : World) : (callFunc (ruleF k) args).run Tryz.prog w = .ok (.enter (ruleF k) args) w:=call_rule0 args w k hk
theorem infoRu : (Tryz.prog.info? 223).map (·.size) = some 2:=by kernel_rfl
@[go_sem ↓] theorem loadRu_rw (a : Addr) : loadVar 223 a = ldS 223 a:=rfl
@[go_sem ↓] theorem storeRu_rw (a : Addr) (v : Value) : storeVar 223 a v = stS 223 a v:=rfl
@[go_sem] theorem loadRu_run (w : World) (g o : Nat) : (ldS 223 ⟨g,o,none⟩).run Tryz.prog w = match rowAt w g o 2 with | some cs=>.ok (.agg cs) w | none=>(loadVar 223 ⟨g,o,none⟩).run Tryz.prog w :=
  run_ldS Tryz.underlying223 rfl infoRu w g o
@[go_sem] theorem storeRu_run (w : World) (g : Nat) (hg : g = w.heap.size) (z : Array Value) (hz : z.size = 2) (b k : Nat) (e : TypeId) : (stS 223 ⟨g,0,none⟩ (.agg (ruleC b k))).run Tryz.prog (w.alloc (.cells z e)) = .ok () (w.alloc (.cells (ruleC b k) e)) :=
  hg ▸ run_stS_new infoRu w z (ruleC b k) hz rfl (by intro u hu;simp [ruleC] at hu;rcases hu with rfl | rfl <;> rfl)
set_option maxRecDepth 100000 in
set_option maxHeartbeats 4000000 in
theorem hd_check (w : World) (h : HdV) (A : Option Addr) (c : Nat) (hT : TagsIn w A h.ps.length h.ps) (hn : h.ps.length ≤ 1000000) (ht : h.tp.size ≤ 9223372036854775807) :
    Calls Tryz.prog 102 #[.agg (hdC (hdO h A c))] w fun e w'=>e = .returned (.int .i64 (hdE h)) ∧ Below w.heap.size w w':=by
  have hB : Below w.heap.size w (w.alloc (.cells (hdC (hdO h A c)) 30)):=(Below.refl _ _).alloc (Nat.le_refl _) _;have hr : rowAt (w.alloc (.cells (hdC (hdO h A c)) 30)) w.heap.size 0 38 = some (hdC (hdO h A c)):=by simp [go_sem]
  have hT0:=SlR.below hT hB;have cr:=rules_any (w.alloc (.cells (hdC (hdO h A c)) 30)) ⟨w.heap.size,0,none⟩;rw [show (w.alloc (.cells (hdC (hdO h A c)) 30)).heap.size = w.heap.size + 1 by simp] at cr;go_enter Tryz.func102,Tryz.ntmps102
  go_wp2_with fail
  go_step3
  go_wp2_with fail
  go_step3
  (go_wp2_with fail);refine cr.mono ?_;rintro e w1 ⟨rfl,rfl⟩;clear cr;go_upto_region 3 with fail
  obtain ⟨g,hg⟩ : ∃ g,w.heap.size = g:=⟨_,rfl⟩
  have Hg:=Lib.hid hg;obtain ⟨W,hW⟩ : ∃ W,W = ((w.alloc (.cells (hdC (hdO h A c)) 30)).alloc (.cells #[.pointer (some ⟨w.heap.size,0,none⟩)] 221)).alloc (.cells (rulesC (w.heap.size + 1)) 223):=⟨_,rfl⟩
  have hbW : Below (w.alloc (.cells (hdC (hdO h A c)) 30)).heap.size (w.alloc (.cells (hdC (hdO h A c)) 30)) W:=by rw [hW];exact ((Below.refl _ _).alloc (Nat.le_refl _) _).alloc (by simp) _
  have hrow : ∀ k,k < 8 → rowAt W (g + 1 + 1) (k * 2) 2 = some (ruleC (g + 1) k):=fun k hk=>by
    have hn:=heap_alloc_new ((w.alloc (.cells (hdC (hdO h A c)) 30)).alloc (.cells #[.pointer (some ⟨w.heap.size,0,none⟩)] 221)) (.cells (rulesC (w.heap.size + 1)) 223);rw [show ((w.alloc (.cells (hdC (hdO h A c)) 30)).alloc (.cells #[.pointer (some ⟨w.heap.size,0,none⟩)] 221)).heap.size = w.heap.size + 1 + 1 by simp,← hW,hg] at hn;unfold rowAt;rw [hn];simp only;rw [if_pos (by show k * 2 + 2 ≤ 16;omega),rulesC_row _ _ hk]
  have hbox : W.cell? ⟨g + 1,0,none⟩ = some (.pointer (some ⟨g,0,none⟩)):=by
    have hn:=heap_alloc_new (w.alloc (.cells (hdC (hdO h A c)) 30)) (.cells #[.pointer (some ⟨w.heap.size,0,none⟩)] 221);rw [show (w.alloc (.cells (hdC (hdO h A c)) 30)).heap.size = w.heap.size + 1 by simp] at hn;have hn2:=(Below.heap_alloc ((w.alloc (.cells (hdC (hdO h A c)) 30)).alloc (.cells #[.pointer (some ⟨w.heap.size,0,none⟩)] 221)) (.cells (rulesC (w.heap.size + 1)) 223) (w.heap.size + 1) (by simp)).trans hn;rw [← hW] at hn2;rw [hg] at hn2;rw [cell_of_row W (g + 1) 0 _ _ _ hn2];rfl
  have hd : HdAt W (g + 1) g h A c:=⟨hbox,by rw [hg] at hr;exact (rowAt_of_block (hbW.block g (by simp;omega)) _ _).trans hr,SlR.below hT0 hbW,hn,ht⟩
  have hBW : Below g w W:=by rw [← hg];exact hB.trans (hbW.mono (by simp))
  have hgW : g + 1 + 1 < W.heap.size:=rowAt_lt (hrow 0 (by omega));rw [← hW];simp only [hg];clear hW hr hT0 hB hbW hbox hT hg;obtain ⟨b,hb⟩ : ∃ b,g + 1 = b:=⟨_,rfl⟩
  obtain ⟨gr,hgr⟩ : ∃ gr,b + 1 = gr:=⟨_,rfl⟩
  simp only [hb,hgr] at hrow hd hgW ⊢;have hgb : g < b:=by omega
  have hbg : b < gr:=by omega
  have HE:=Lib.hid (firstE_all h);clear hb hgr;go_loopw [3,5,8] (fun ev _ n wr=>∃ k : Nat,k ≤ 8 ∧ n = .int .i64 k ∧ ev = .int .i64 0 ∧ Hid (hdE h = firstE h (8 - k)) ∧ Below W.heap.size W wr) (fun _ _ n _=>8 - (intOf n).toNat)
  case atStart=>exact ⟨0,by omega,rfl,rfl,(show _ = _ from HE.out.symm),Below.refl _ _⟩
  case round =>
    obtain ⟨k,hk,rfl,rfl,hE,hbr⟩:=hrel;by_cases hlt : k < 8
    · have hE2:=hE.out;rw [firstE_step h hlt] at hE2;have hrk:=(rowAt_of_block (hbr.block gr hgW) (k * 2) 2).trans (hrow k hlt);have hba : Below wr.heap.size wr (wr.alloc (.cells (ruleC b k) 223)):=(Below.refl _ _).alloc (Nat.le_refl _) _;have hda:=(hd.below hbr).below hba;have cr:=rule_any _ b g h A c hda k hlt;obtain ⟨B,hB⟩ : ∃ B,ruleB h k = B:=⟨_,rfl⟩
      obtain ⟨E,hEE⟩ : ∃ E,ruleE k = E:=⟨_,rfl⟩
      have hn0 : (wr.alloc (.cells (ruleC b k) 223)).cell? ⟨wr.heap.size,0,none⟩ = some (.func (.func (ruleF k)) #[] #[.pointer (some ⟨b,0,none⟩)]):=by simp [go_sem,ruleC]
      have hn1 : (wr.alloc (.cells (ruleC b k) 223)).cell? ⟨wr.heap.size,1,none⟩ = some (.int .i64 E):=by simp [go_sem,ruleC,hEE]
      rw [hB] at cr hE2;rw [hEE] at hE2;have HE2:=Lib.hid hE2;have hcf:=call_rule k hlt #[.pointer (some ⟨b,0,none⟩)] (wr.alloc (.cells (ruleC b k) 223));clear hE2 hB hEE hE;(go_wp2_with fail);refine cr.mono ?_;rintro e w5 ⟨rfl,hb5⟩;have hn1':=(hb5.cell (p:=⟨wr.heap.size,1,none⟩) (by simp)).trans hn1;have hbF : Below W.heap.size W w5:=bel2 (bel2 hbr hba) hb5;clear cr hcf hn0 hn1 hrk hda hba hb5 hbr;cases B with
      | true =>
        have hE3 : hdE h = E:=by rw [HE2.out,if_pos rfl]
        have HE3:=Lib.hid hE3;have hbZ : Below g w w5:=hBW.trans (hbF.mono (by omega));have HbZ:=Lib.hid hbZ;clear hE3 hbZ hbF;(go_wp2_with fail);rw [Exit.noGoto_ret];go_ret;exact ⟨ret_int HE3.out.symm,by rw [Hg.out];exact HbZ.out⟩
      | false =>
        have hE3 : Hid (hdE h = firstE h (8 - (k + 1))):=(show _ = _ by rw [HE2.out,if_neg (by simp)])
        (go_wp2_with fail);go_roundw
        case rel=>exact ⟨k + 1,by omega,by go_num,rfl,hE3,hbF⟩
        case measure=>simp [intOf];omega
    · have hE3 : hdE h = 0:=by rw [hE.out,show 8 - k = 0 by omega];rfl
      have HE3:=Lib.hid hE3;have hbZ : Below g w wr:=hBW.trans (hbr.mono (by omega));clear hE3;(go_wp2_with fail);rw [Exit.noGoto_ret];go_ret;exact ⟨ret_int HE3.out.symm,by rw [Hg.out];exact hbZ⟩
end
section
open Go.RowKit
set_option maxHeartbeats 1000000 in
theorem rhas6 (w : World) (A : Option Addr) (n cap : Nat) (R : List Id32) (d : Id32) (h : TagsIn w A n R) (hn : n ≤ 9223372036854775807) :
    Calls Tryz.prog 40 #[.slice A n cap,.agg (idC d)] w fun e w'=>e = .returned (.bool (decide (d ∈ R))) ∧ Below w.heap.size w w':=by
  have hlen:=h.len;have hB : Below w.heap.size w (w.alloc (.cells (idC d) 24)):=(Below.refl _ _).alloc (Nat.le_refl _) _;have hd0 : rowAt (w.alloc (.cells (idC d) 24)) w.heap.size 0 32 = some (idC d):=by simp [go_sem]
  have Hlen:=Lib.hid hlen;clear hlen;go_enter Tryz.func40,Tryz.ntmps40
  (go_wp2_with fail);generalize w.alloc (.cells (idC d) 24) = W at *;go_loopw [5] (fun i wr=>∃ k : Nat,k ≤ n ∧ i = .int .i64 k ∧ Hid (d ∉ R.take k) ∧ Below W.heap.size W wr) (fun i _=>n - (intOf i).toNat)
  case atStart=>exact ⟨0,Nat.zero_le _,rfl,(show d ∉ R.take 0 by simp),Below.refl _ _⟩
  case round =>
    obtain ⟨k,hk,rfl,hno,hb⟩:=hrel;by_cases hlt : k < n
    · obtain ⟨q,o,rfl,hr⟩:=TagsIn.get (SlR.below (SlR.below h hB) hb) hlt (by rw [Hlen.out];exact hlt);have hdr : rowAt wr w.heap.size 0 32 = some (idC d):=(rowAt_of_block (hb.block _ (rowAt_lt hd0)) _ _).trans hd0;have htk : R.take (k + 1) = R.take k ++ [R[k]'(by rw [Hlen.out];exact hlt)]:=by rw [List.take_add_one,List.getElem?_eq_getElem (by rw [Hlen.out];exact hlt)];rfl
      have hmem : R[k]'(by rw [Hlen.out];exact hlt) ∈ R:=List.getElem_mem _;obtain ⟨x,hx⟩ : ∃ x,R[k]'(by rw [Hlen.out];exact hlt) = x:=⟨_,rfl⟩
      rw [hx] at hr htk hmem;have Htk:=Lib.hid htk;have Hm:=Lib.hid hmem;clear hx htk hmem;go_upto_region 4 with fail
      refine wp_region_lex (Bel wr) false (by kernel_rfl) (by kernel_rfl) (by kernel_rfl) (bel_drew wr) ?_;have hne:=bel_some wr;have hS:=bel_drew wr;have b1:=sub_row hr;have b2:=sub_row hdr;repeat (refine wpLx_loose ?_ ?_;(focus (simp only [chainOp];done));intro K hK;go_simp;refine hK _ ?_;clear hK K)
      refine wpLx_nil ?_;intro hS;clear hne hS b1 b2 hr hdr;go_wp2_with fail
      · have he : (x == d) = true:=by assumption
        have e : x = d:=by simpa using he
        have Hin : Hid (decide (d ∈ R) = true):=decide_eq_true (by rw [← e];exact Hm.out);clear e;go_ret;exact ⟨ret_bool (by rw [Hin.out]),hB.trans (hb.drew.mono hB.size)⟩
      · have he : (x == d) = false:=by assumption
        have e : ¬ x = d:=by simpa using he
        have hno' : Hid (d ∉ R.take (k + 1)):=by
          show _;rw [Htk.out,List.mem_append,List.mem_singleton];rintro (h1 | h1)
          · exact hno.out h1
          · exact e h1.symm
        clear e;go_roundw
        case rel=>exact ⟨k + 1,by omega,by go_num,hno',hb.drew⟩
        case measure=>simp [intOf];omega
    · have hall : d ∉ R:=by
        have:=hno.out
        rwa [List.take_of_length_le (by rw [Hlen.out];omega)] at this
      have Hn : Hid (decide (d ∈ R) = false):=decide_eq_false hall;clear hall;(go_wp2_with fail);go_ret;exact ⟨ret_bool (by rw [Hn.out]),hB.trans (hb.mono hB.size)⟩
end
section
open Go.RowKit
theorem idB_lt (d : Id32) {k : Nat} (h : k < 32) : idB d k = ((d.l[k]'(by rw [d.h];exact h)).toNat : Int):=by
  unfold idB;rw [List.getD_eq_getElem?_getD,List.getElem?_eq_getElem (by rw [d.h];exact h)];rfl
theorem drop_id (d : Id32) {k : Nat} (h : k < 32) : d.l.drop k = d.l[k]'(by rw [d.h];exact h) :: d.l.drop (k + 1):=List.drop_eq_getElem_cons (by rw [d.h];exact h)
theorem cmpB_cons (u v : UInt8) (l m : List UInt8) : cmpB (u :: l) (v :: m) = if u < v then -1 else if v < u then 1 else cmpB l m:=rfl
set_option maxHeartbeats 2000000 in
theorem rcompare (a b : Id32) (w : World) : Calls Tryz.prog 67 #[.agg (idC a),.agg (idC b)] w fun e w'=>e = .returned (.int .i64 (cmpId a b)) ∧ Below w.heap.size w w':=by
  go_enter Tryz.func67,Tryz.ntmps67
  (go_wp2_with fail);have hca : Hid (∀ k,k < 32 → ((w.alloc (.cells (idC a) 24)).alloc (.cells (idC b) 24)).cell? ⟨w.heap.size,k,none⟩ = some (.int .u8 (idB a k))):=fun k hk=>(by simp [go_sem,hk]);have hcb : Hid (∀ k,k < 32 → ((w.alloc (.cells (idC a) 24)).alloc (.cells (idC b) 24)).cell? ⟨w.heap.size + 1,k,none⟩ = some (.int .u8 (idB b k))):=fun k hk=>(by simp [go_sem,hk]);have hB : Below w.heap.size w ((w.alloc (.cells (idC a) 24)).alloc (.cells (idC b) 24)):=((Below.refl _ _).alloc (Nat.le_refl _) _).alloc (by simp) _;generalize (w.alloc (.cells (idC a) 24)).alloc (.cells (idC b) 24) = W at *;go_loopw [5] (fun i wr=>∃ k : Nat,k ≤ 32 ∧ i = .int .i64 k ∧ Hid (cmpB (a.l.drop k) (b.l.drop k) = cmpId a b) ∧ Below W.heap.size W wr) (fun i _=>32 - (intOf i).toNat)
  case atStart=>exact ⟨0,by omega,rfl,rfl,Below.refl _ _⟩
  case round =>
    obtain ⟨k,hk,rfl,hd,hb⟩:=hrel;by_cases hlt : k < 32
    · have ca:=(hb.cell (p:=⟨w.heap.size,k,none⟩) (World.block_lt_of_cell? W _ (hca.out k hlt))).trans (hca.out k hlt);have cb:=(hb.cell (p:=⟨w.heap.size + 1,k,none⟩) (World.block_lt_of_cell? W _ (hcb.out k hlt))).trans (hcb.out k hlt);have hdr : cmpId a b = if idB a k < idB b k then -1 else if idB b k < idB a k then 1 else cmpB (a.l.drop (k + 1)) (b.l.drop (k + 1)):=by
        rw [← hd.out,drop_id a hlt,drop_id b hlt,idB_lt a hlt,idB_lt b hlt,cmpB_cons];simp only [UInt8.lt_iff_toNat_lt,Int.ofNat_lt]
      obtain ⟨x,hx⟩ : ∃ x,idB a k = x:=⟨_,rfl⟩
      obtain ⟨y,hy⟩ : ∃ y,idB b k = y:=⟨_,rfl⟩
      rw [hx,hy] at hdr;rw [hx] at ca;rw [hy] at cb;have Hdr:=Lib.hid hdr;clear hdr hx hy;go_upto_region 4 with fail
      refine wp_region_lex (Bel wr) false (by kernel_rfl) (by kernel_rfl) (by kernel_rfl) (bel_drew wr) ?_;have hne:=bel_some wr;have hS:=bel_drew wr;have b1:=sub_cell ca;have b2:=sub_cell cb;repeat (refine wpLx_loose ?_ ?_;(focus (simp only [chainOp];done));intro K hK;go_simp;refine hK _ ?_;clear hK K)
      refine wpLx_nil ?_;intro hS;have hb1 : Below W.heap.size W wr.drew:=hb.drew;clear hne hS b1 b2;by_cases h1 : x < y
      · (go_wp2_with fail);go_ret;exact ⟨ret_int (by rw [Hdr.out,if_pos (by omega)]),hB.trans (hb1.mono hB.size)⟩
      · go_upto_region 6 with fail
        refine wp_region_lex (Bel wr.drew) false (by kernel_rfl) (by kernel_rfl) (by kernel_rfl) (bel_drew wr.drew) ?_;have hne:=bel_some wr.drew;have hS:=bel_drew wr.drew;have b1:=sub_cell (W:=wr.drew) ca;have b2:=sub_cell (W:=wr.drew) cb;repeat (refine wpLx_loose ?_ ?_;(focus (simp only [chainOp];done));intro K hK;go_simp;refine hK _ ?_;clear hK K)
        refine wpLx_nil ?_;intro hS;clear hne hS b1 b2;by_cases h2 : y < x
        · (go_wp2_with fail);go_ret;exact ⟨ret_int (by rw [Hdr.out,if_neg (by omega),if_pos (by omega)]),hB.trans (hb1.drew.mono hB.size)⟩
        · (go_wp2_with fail);go_roundw
          case rel=>exact ⟨k + 1,by omega,by go_num,(show cmpB _ _ = _ by rw [Hdr.out,if_neg (by omega),if_neg (by omega)]),hb1.drew⟩
          case measure=>simp [intOf];omega
    · have hk32 : k = 32:=by omega
      subst hk32;(go_wp2_with fail);go_ret;have h0:=hd.out;rw [List.drop_eq_nil_of_le (by rw [a.h];omega),List.drop_eq_nil_of_le (by rw [b.h];omega)] at h0;exact ⟨ret_int (by rw [← h0];rfl),hB.trans (hb.mono hB.size)⟩
end
section
open Go.RowKit
theorem flat_set : ∀ (L : List (Array Value)) (k : Nat),(∀ c ∈ L,c.size = k) → ∀ (i : Nat) (cs : Array Value),i < L.length →
    (L.set i cs).flatMap Array.toList = (L.flatMap Array.toList).take (i * k) ++ cs.toList ++ (L.flatMap Array.toList).drop (i * k + k)
  | c :: L,k,hs,0,cs,_=>by
    have hc : c.toList.length = k:=by simpa using hs c (by simp)
    simp only [List.set_cons_zero,List.flatMap_cons,Nat.zero_mul,List.take_zero,List.nil_append,Nat.zero_add];rw [← hc,List.drop_left]
  | c :: L,k,hs,i + 1,cs,hi=>by
    have hc : c.toList.length = k:=by simpa using hs c (by simp)
    have ih:=flat_set L k (fun c h=>hs c (by simp [h])) i cs (by simpa using hi);simp only [List.set_cons_succ,List.flatMap_cons];rw [ih];have e1 : (i + 1) * k = c.toList.length + i * k:=by rw [hc,Nat.add_mul];omega
    rw [e1,List.take_append,List.drop_append];have t1 : c.toList.take (c.toList.length + i * k) = c.toList:=List.take_of_length_le (by omega);have t2 : c.toList.drop (c.toList.length + i * k + k) = []:=List.drop_eq_nil_of_le (by omega);rw [t1,t2];have n1 : c.toList.length + i * k - c.toList.length = i * k:=by omega
    have n2 : c.toList.length + i * k + k - c.toList.length = i * k + k:=by omega
    rw [n1,n2]
    simp
theorem flat_div {L : List (Array Value)} {k : Nat} (hk : 0 < k) (hs : ∀ c ∈ L,c.size = k) {j : Nat} {u : Value} (h : (L.flatMap Array.toList)[j]? = some u) :
    ∃ i r,∃ (hi : i < L.length),r < k ∧ j = i * k + r ∧ (L[i])[r]? = some u:=by
  have hlen:=flat_len L k hs;have hj : j < L.length * k:=by
    have:=(List.getElem?_eq_some_iff.1 h).1;omega
  have hi : j / k < L.length:=Nat.div_lt_of_lt_mul (by rw [Nat.mul_comm];exact hj);have hr : j % k < k:=Nat.mod_lt _ hk;have he : j = j / k * k + j % k:=by rw [Nat.mul_comm];exact (Nat.div_add_mod j k).symm
  refine ⟨j / k,j % k,hi,hr,he,?_⟩;rw [← flat_get L k hs (j / k) (j % k) hi hr,← he,h]
section
variable {P : Program} {T E : TypeId} {k bytes : Nat}
theorem append_rows (I : ElemInfo P T E k bytes) {w : World} {B : Nat} {A : Option Addr} {n cap : Nat} {L : List (Array Value)} (hown : Own w B E k A n cap L)
    {A2 : Option Addr} {m c : Nat} {R : List (Array Value)} (hsrc : SlR w A2 m k R) (hform : A2 = none → c = 0) (hone : ∀ r ∈ R,∀ u ∈ r.toList,u.oneCell' = true) (hbytes : (n + m) * bytes ≤ 140737488355328) (hn : n + m ≤ 9223372036854775807) (hB : B ≤ w.heap.size) (ty : TypeId) :
    ∃ A' cap' w',(Builtin.append_ #[T,T] ty #[.slice A n cap,.slice A2 m c]).run P w = .ok (.slice A' (n + m) cap') w' ∧ Own w' B E k A' (n + m) cap' (L ++ R) ∧ Keep (blk A) w w' ∧ (∀ x ∈ blk A',x ∈ blk A ∨ w.heap.size ≤ x):=by
  obtain ⟨i,z,hi,hz,hsz,hby,hzs⟩:=I.info;have hsize : ∀ r ∈ R,r.size = k:=by
    intro r hr;obtain ⟨j,hj,rfl⟩:=List.mem_iff_getElem.1 hr;obtain ⟨g,o,_,hc⟩:=hsrc.at_ (i:=j) (by have:=hsrc.1;omega);exact rowAt_size hc
  cases A2 with
  | none =>
    have hm : m = 0:=by
      rcases Nat.eq_zero_or_pos m with h | h
      · exact h
      · obtain ⟨g,o,e,_⟩:=hsrc.2 h;cases e
    subst hm;have hR : R = []:=List.eq_nil_of_length_eq_zero hsrc.1;subst hR;have hc:=hform rfl;subst hc;exact ⟨A,cap,w,run_append_owned_none (P:=P) w B T ty E i k I.und hi _ _ _ hown.row,by simpa using hown,Keep.refl _ _,fun x hx=>.inl hx⟩
  | some a =>
    obtain ⟨v',w',hrun,hown',hg,_,hblk⟩:=run_append_own_at (P:=P) w B T ty E i z k bytes I.und hi hz hsz hby hzs I.pos (.slice A n cap) n _ hown.row a m c (R.flatMap Array.toList) (by rw [flat_len R k hsize,hsrc.1])
      (fun j u hu=>by
        obtain ⟨x,r,hx,hr,rfl,hcell⟩:=flat_div I.pos hsize hu;obtain ⟨g,o,e,hrow⟩:=hsrc.at_ (i:=x) (by have:=hsrc.1;omega);injection e with e;subst e
        have hadd : (⟨g,o,none⟩ : Addr).add (x * k + r) = ⟨g,o + (x * k + r),none⟩:=by unfold Addr.add;split <;> simp_all
        rw [hadd,← Nat.add_assoc,rowAt_cell hrow hr];exact hcell)
      (fun u hu=>by
        obtain ⟨r,hr,hu⟩:=List.mem_flatMap.1 hu;exact hone r hr u hu) (by simp only [maxLen];omega) hbytes hB
    have hform : ∃ A' cap',v' = .slice A' (n + m) cap':=by
      rcases hown'.2 with ⟨h0,h00⟩ | ⟨g,c',cur,hv,_⟩
      · exact ⟨none,0,by rw [h0,h00]⟩
      · exact ⟨_,_,hv⟩
    obtain ⟨A',cap',rfl⟩:=hform;have hb : (Value.slice A n cap).ownBlock = (A.map (·.block)):=by cases A <;> rfl
    have hb' : (Value.slice A' (n + m) cap').ownBlock = (A'.map (·.block)):=by cases A' <;> rfl
    refine ⟨A',cap',w',hrun,⟨by rw [List.flatMap_append];exact hown',by simp [hown.len,hsrc.1],fun c' hc'=>?_⟩,?_,?_⟩
    · rcases List.mem_append.1 hc' with h | h
      · exact hown.size c' h
      · exact hsize c' h
    · have:=Keep.grown hg
      rwa [hb] at this
    · intro x hx;rw [hb,hb'] at hblk;rcases hblk with e | e
      · left;unfold blk at hx ⊢;rw [e] at hx;exact hx
      · right
        unfold blk at hx;rw [e] at hx;have : x = w.heap.size:=by simpa using hx
        omega
theorem own_store (I : ElemInfo P T E k bytes) {w : World} {B : Nat} {g n cap : Nat} {L : List (Array Value)} (hown : Own w B E k (some ⟨g,0,none⟩) n cap L) {i : Nat} (hi : i < n) {cs : Array Value} (hcs : cs.size = k) (hone : ∀ u ∈ cs.toList,u.oneCell' = true) :
    ∃ w',(stS E ⟨g,i * k,none⟩ (.agg cs)).run P w = .ok () w' ∧ Own w' B E k (some ⟨g,0,none⟩) n cap (L.set i cs) ∧ Keep [g] w w':=by
  obtain ⟨inf,z,hinf,hz,hsz,hby,hzs⟩:=I.info;have hlen:=flat_len L k hown.size;have hL:=hown.len;obtain ⟨⟨h1,h2⟩,_,hs⟩:=hown;rcases h2 with ⟨h2,_⟩ | ⟨g',c,cur,hv,hb,hg,hnc,hcm,hcsz,htake⟩
  · cases h2
  · injection hv with hA _ hc
    injection hA with hA
    injection hA with hA
    subst hA;subst hc;have hle : i * k + k ≤ n * k:=by
      have : (i + 1) * k ≤ n * k:=Nat.mul_le_mul_right k (by omega);rw [Nat.add_mul] at this;omega
    have hle2 : n * k ≤ cur.size:=by rw [hcsz];exact Nat.mul_le_mul_right k hnc
    have hst:=run_storeCells_at P g (i * k) E cs.toList 0 cur w hg (by simp;omega) hone;simp only [Nat.add_zero,Array.length_toList,hcs] at hst;have hset : (w.setRow g (cur.toList.take (i * k) ++ cs.toList ++ cur.toList.drop (i * k + k)).toArray).heap[g]? = some (.cells (cur.toList.take (i * k) ++ cs.toList ++ cur.toList.drop (i * k + k)).toArray E (0,0)):=setRow_heap w g cur _ E _ hg;refine ⟨_,?_,⟨⟨?_,.inr ⟨g,cap,_,rfl,hb,hset,hnc,hcm,?_,?_⟩⟩,by simp [hL],?_⟩,⟨rfl,rfl,rfl,by simp [World.setRow],fun x _ hx=>setRow_other w g x _ (by simpa using hx)⟩⟩
    · unfold stS storeVar;simp [Value.cells,sizeOf,typeInfo,hinf,hsz,hcs];simpa using hst
    · rw [flat_len _ k (fun c hc=>by
        rcases List.mem_or_eq_of_mem_set hc with h | h
        · exact hs c h
        · rw [h];exact hcs),List.length_set,hL]
    · simp;omega
    · rw [flat_set L k hs i cs (by omega),← htake];have hcl : cs.toList.length = k:=by simpa using hcs
      have hcur : n * k ≤ cur.toList.length:=by simpa using hle2
      generalize cur.toList = X at *;generalize cs.toList = Y at *;apply List.ext_getElem?;intro j;simp only [List.getElem?_take,List.getElem?_append,List.length_append,List.length_take,List.getElem?_drop];have m1 : min (i * k) X.length = i * k:=by omega
      have m2 : min (i * k) (min (n * k) X.length) = i * k:=by omega
      simp only [m1,m2,hcl];by_cases c1 : j < i * k
      · have c2 : j < i * k + k:=by omega
        have c3 : j < n * k:=by omega
        simp [c1,c2,c3]
      · by_cases c2 : j < i * k + k
        · have c3 : j < n * k:=by omega
          simp [c1,c2,c3]
        · have e : i * k + k + (j - (i * k + k)) = j:=by omega
          simp [c1,c2,e]
    · intro c hc;rcases List.mem_or_eq_of_mem_set hc with h | h
      · exact hs c h
      · rw [h];exact hcs
end
theorem run_bsS0 {P : Program} {T E : TypeId} {k bytes : Nat} (I : ElemInfo P T E k bytes) (w : World) : (bsS T 0 #[]).run P w = .ok (.slice (some ⟨w.heap.size,0,none⟩) 0 0) (w.alloc (.cells #[] E)):=by
  obtain ⟨i,z,hi,hz,hsz,hby,hzs⟩:=I.info;unfold bsS Instr.buildSlice;simp only [Sem.run_bind,run_underlying I.und,Result.andThen_ok,sizeOf,typeInfo,hi,hsz];simp [hi,hz,zeroValue,typeInfo,hsz,Instr.fill,newRow];have e : Array.range 0 = #[]:=rfl;rw [e];simp
theorem Own.empty (w : World) (B : Nat) (E : TypeId) (k : Nat) (hB : B ≤ w.heap.size) : Own (w.alloc (.cells #[] E)) B E k (some ⟨w.heap.size,0,none⟩) 0 0 [] :=
  ⟨⟨by simp,.inr ⟨w.heap.size,0,#[],rfl,hB,heap_alloc_new w _,Nat.le_refl _,Nat.zero_le _,by simp,by simp⟩⟩,rfl,by simp⟩
theorem Own.cap_le {w : World} {B : Nat} {E : TypeId} {k : Nat} {A : Option Addr} {n cap : Nat} {L : List (Array Value)} (h : Own w B E k A n cap L) : n ≤ cap ∧ (A = none → n = 0 ∧ cap = 0):=by
  rcases h.row.2 with ⟨h1,h2⟩ | ⟨g,c,cur,hv,_,_,hnc,_⟩
  · injection h1 with e1 e2 e3
    subst e1;subst e2;subst e3;exact ⟨Nat.le_refl _,fun _=>⟨rfl,rfl⟩⟩
  · injection hv with e1 e2 e3
    subst e1;subst e3;exact ⟨hnc,fun e=>by cases e⟩
theorem SlR.take_ {w : World} {A : Option Addr} {n k : Nat} {L : List (Array Value)} (h : SlR w A n k L) {m : Nat} (hm : m ≤ n) : SlR w A m k (L.take m) :=
  ⟨by rw [List.length_take,h.1];omega,fun h0=>by
    obtain ⟨g,o,e,hc⟩:=h.2 (by omega);refine ⟨g,o,e,fun i hi=>?_⟩;have hi' : i < L.length:=by simp at hi;omega
    rw [hc i hi'];simp⟩
theorem SlR.drop_ {w : World} {g o n k : Nat} {L : List (Array Value)} (h : SlR w (some ⟨g,o,none⟩) n k L) {m : Nat} (hm : m ≤ n) : SlR w (some ⟨g,o + m * k,none⟩) (n - m) k (L.drop m) :=
  ⟨by rw [List.length_drop,h.1],fun h0=>by
    obtain ⟨g',o',e,hc⟩:=h.2 (by omega);injection e with e;injection e with e1 e2
    subst e1;subst e2;refine ⟨g,o + m * k,rfl,fun i hi=>?_⟩;have hi' : m + i < L.length:=by simp at hi;omega
    have:=hc (m + i) hi';rw [Nat.add_mul,← Nat.add_assoc] at this;rw [this];simp⟩
theorem L_appends {P : Program} {ops : Array Oper} {Q : Exit → Act → World → Prop} {a : Act} {w : World} {rest : List Oper} {dst : Option Tmp} {s x : Operand} {ty : TypeId} {pos : String} {after : Array Edge} {T E : TypeId} {k bytes : Nat} (I : ElemInfo P T E k bytes)
    {B : Nat} {A : Option Addr} {n cap : Nat} {L : List (Array Value)} (hs : a.eval s = .slice A n cap) (hown : Own w B E k A n cap L)
    {A2 : Option Addr} {m c : Nat} {R : List (Array Value)} (hx : a.eval x = .slice A2 m c) (hsrc : SlR w A2 m k R) (hform : A2 = none → c = 0) (hone : ∀ r ∈ R,∀ u ∈ r.toList,u.oneCell' = true) (hbytes : (n + m) * bytes ≤ 140737488355328) (hn : n + m ≤ 9223372036854775807) (hB : B ≤ w.heap.size)
    (h : ∀ A' cap' w',Own w' B E k A' (n + m) cap' (L ++ R) → Keep (blk A) w w' → (∀ x ∈ blk A',x ∈ blk A ∨ w.heap.size ≤ x) → wpList P ops Q rest (a.put dst (.slice A' (n + m) cap')) w') :
    wpList P ops Q ({ dst:=dst,op:=.call { callee:=.builtin .append,args:=#[s,x],argTypes:=#[T,T] },type:=ty,pos:=pos,after:=after,guard:=none } :: rest) a w:=by
  obtain ⟨A',cap',w',hrun,h1,h2,h3⟩:=append_rows I hown hsrc hform hone hbytes hn hB ty;refine wpList_plain rfl fun K hK=>?_;unfold Oper.wp;rw [exec_append a.eval hs hx hrun];exact hK _ _ (h A' cap' w' h1 h2 h3)
end
section
open Go.RowKit
def nthL {α : Type} : List α → Nat → Option α
  | [],_=>none
  | x :: _,0=>some x
  | _ :: l,i + 1=>nthL l i
inductive Sched where
  | done : Sched
  | loose (i : Nat) (n : Sched) : Sched
  | one (i : Nat) (n : Sched) : Sched
  | two (i : Nat) (n : Sched) (j : Nat) (m : Sched) : Sched
  | three (i : Nat) (n : Sched) (j : Nat) (m : Sched) (k : Nat) (l : Sched) : Sched
def Sched.depth : Sched → Nat
  | .done=>0
  | .loose _ n=>n.depth + 1
  | .one _ n=>n.depth + 1
  | .two _ n _ m=>max n.depth m.depth + 1
  | .three _ n _ m _ l=>max (max n.depth m.depth) l.depth + 1
def Sched.ok (md : Region.Mode) (ops : Array Oper) : Sched → Array Bool → Bool
  | .done,listed=>(Region.ready md ops listed).isEmpty
  | .loose i n,listed=>(Region.ready md ops listed).contains i && Region.free md ops listed i && n.ok md ops (listed.setIfInBounds i true)
  | .one i n,listed=>(Region.ready md ops listed == [i]) && n.ok md ops (listed.setIfInBounds i true)
  | .two i n j m,listed=>(Region.ready md ops listed == [i,j]) && n.ok md ops (listed.setIfInBounds i true) && m.ok md ops (listed.setIfInBounds j true)
  | .three i n j m k l,listed=>(Region.ready md ops listed == [i,j,k]) && n.ok md ops (listed.setIfInBounds i true) && m.ok md ops (listed.setIfInBounds j true) && l.ok md ops (listed.setIfInBounds k true)
def mkSched (md : Region.Mode) (cv : Bool) (ops : Array Oper) (skip : List Nat) : Nat → Array Bool → Sched
  | 0,_=>.done
  | f + 1,listed =>
    match (Region.ready md ops listed).find? (fun i=>(!chainAt cv ops i || skip.contains i) && Region.free md ops listed i) with
    | some i=>.loose i (mkSched md cv ops skip f (listed.setIfInBounds i true))
    | none =>
      match Region.ready md ops listed with
      | [i]=>.one i (mkSched md cv ops skip f (listed.setIfInBounds i true))
      | [i,j]=>.two i (mkSched md cv ops skip f (listed.setIfInBounds i true)) j (mkSched md cv ops skip f (listed.setIfInBounds j true))
      | [i,j,k]=>.three i (mkSched md cv ops skip f (listed.setIfInBounds i true)) j (mkSched md cv ops skip f (listed.setIfInBounds j true)) k (mkSched md cv ops skip f (listed.setIfInBounds k true))
      | _=>.done
section
variable {P : Program} {ops : Array Oper} {md : Region.Mode} {S : World → Prop} {cv fb : Bool}
def stepT (P : Program) (ops : Array Oper) (S : World → Prop) (cv fb : Bool) (i : Nat) (K : Act → World → Prop) (a : Act) (w : World) : Prop :=
  match ops[i]? with
  | none=>False
  | some o=>if Region.wanted o (yielded ops a.tmps) then chainOp cv o = true ∧ chainRes P (cls ops S fb i) (fun v w'=>K (a.put o.dst v) w') ((execOp a.eval o).run P w) else K (a.put o.dst undef) w
def wpT0 (P : Program) (ops : Array Oper) (S : World → Prop) (cv fb : Bool) (Q : Act → World → Prop) : Sched → Act → World → Prop
  | .done,a,w=>Q a w
  | .loose i n,a,w =>
    match ops[i]? with
    | none=>False
    | some o=>if Region.wanted o (yielded ops a.tmps) then chainOp cv o = false ∧ ∃ v,(∀ w',S w' → looseRes w' v ((execOp a.eval o).run P w')) ∧ wpT0 P ops S cv fb Q n (a.put o.dst v) w else wpT0 P ops S cv fb Q n (a.put o.dst undef) w
  | .one i n,a,w=>stepT P ops S cv fb i (wpT0 P ops S cv fb Q n) a w
  | .two i n j m,a,w=>stepT P ops S cv fb i (wpT0 P ops S cv fb Q n) a w ∧ stepT P ops S cv fb j (wpT0 P ops S cv fb Q m) a w
  | .three i n j m k l,a,w=>stepT P ops S cv fb i (wpT0 P ops S cv fb Q n) a w ∧ stepT P ops S cv fb j (wpT0 P ops S cv fb Q m) a w ∧ stepT P ops S cv fb k (wpT0 P ops S cv fb Q l) a w
structure wpTx (P : Program) (ops : Array Oper) (S : World → Prop) (cv fb : Bool) (Q : Act → World → Prop) (T : Sched) (a : Act) (w : World) : Prop where
  out : wpT0 P ops S cv fb Q T a w
variable {Q : Act → World → Prop} {a : Act} {w : World} {o : Oper} {i j k : Nat} {n m l : Sched}
end
end
section
open Go.RowKit
def slS (T : TypeId) (x : Value) (lo hi mx : Option Value) : Sem Value:=Instr.sliceAt T x lo hi mx
section
variable {P : Program} {T E : TypeId} {k bytes : Nat}
theorem ElemInfo.sizeOf_run (I : ElemInfo P T E k bytes) (w : World) : (Go.sizeOf E).run P w = .ok k w:=by
  obtain ⟨i,z,hi,hz,hsz,hby,hzs⟩:=I.info;simp [Go.sizeOf,typeInfo,hi,hsz]
theorem run_bound (w : World) (m cap : Nat) (hm : m ≤ cap) (c : BoundsCode) : (Instr.sliceBound (.int .i64 m) cap c).run P w = .ok m w:=by
  unfold Instr.sliceBound;have h1 : (asIntOf (.int .i64 (m : Int))).run P w = .ok (.i64,(m : Int)) w:=rfl;simp only [Sem.run_bind,h1,Result.andThen_ok];rw [if_pos ⟨by omega,by omega⟩]
  simp
theorem run_slS (I : ElemInfo P T E k bytes) (w : World) (x : Value) (lo hi mx : Option Value) : (slS T x lo hi mx).run P w = (Instr.slice T x lo hi mx).run P w:=by
  unfold slS;simp [Instr.sliceAt,run_underlying I.und]
theorem run_slS_lo (I : ElemInfo P T E k bytes) (w : World) (A : Option Addr) (n cap m : Nat) (hm : m ≤ cap) :
    (slS T (.slice A n cap) none (some (.int .i64 m)) none).run P w = .ok (.slice A m cap) w:=by
  rw [run_slS I];unfold Instr.slice Instr.sliceBounds;simp only [Sem.run_bind,run_underlying I.und,Result.andThen_ok,Sem.run_pure,run_bound w m cap hm,I.sizeOf_run w];have e : (if cap = 0 then A else A.map fun a=>a.add (0 * k)) = A:=by
    split
    · rfl
    · cases A with
      | none=>rfl
      | some a=>simp [Addr.add]
  simp only [Nat.sub_zero,e]
theorem run_slS_hi (I : ElemInfo P T E k bytes) (w : World) (A : Option Addr) (n cap m : Nat) (hm : m ≤ n) (hc : n ≤ cap) (hA : A = none → cap = 0) (hsp : ∀ a,A = some a → a.spot = none) :
    ∃ A2 c2,(slS T (.slice A n cap) (some (.int .i64 m)) none none).run P w = .ok (.slice A2 (n - m) c2) w ∧ (∀ (w' : World) (L : List (Array Value)),SlR w' A n k L → SlR w' A2 (n - m) k (L.drop m)) ∧ (A2 = none → c2 = 0):=by
  refine ⟨if cap = m then A else A.map fun a=>a.add (m * k),cap - m,?_,?_,?_⟩
  · rw [run_slS I];unfold Instr.slice Instr.sliceBounds;simp only [Sem.run_bind,run_underlying I.und,Result.andThen_ok,Sem.run_pure,run_bound w m n hm,I.sizeOf_run w,Option.isSome_none,Bool.false_eq_true,if_false]
  · intro w' L hL;by_cases hcm : cap = m
    · have : n - m = 0:=by omega
      rw [this];exact ⟨by rw [List.length_drop,hL.1];omega,fun h=>absurd h (by omega)⟩
    · rw [if_neg hcm];cases A with
      | none=>exact absurd (hA rfl) (by omega)
      | some a =>
        obtain ⟨g,o,sp⟩:=a;have : sp = none:=hsp _ rfl;subst this;have e : (⟨g,o,none⟩ : Addr).add (m * k) = ⟨g,o + m * k,none⟩:=by unfold Addr.add;split <;> simp_all
        simp only [Option.map_some,e];exact hL.drop_ hm
  · intro h;by_cases hcm : cap = m
    · omega
    · rw [if_neg hcm] at h;cases A with
      | none=>have:=hA rfl;omega
      | some a=>cases h
end
end
section
open Go.RowKit
structure SlW (w : World) (A : Option Addr) (n cap k : Nat) (L : List (Array Value)) : Prop where
  rd : SlR w A n k L
  le : n ≤ cap
  nil : A = none → cap = 0
  plain : ∀ a,A = some a → a.spot = none
section
variable {P : Program} {T E : TypeId} {k bytes : Nat} {w w' : World} {A : Option Addr} {n cap : Nat} {L : List (Array Value)}
theorem SlW.none_ : SlW w none 0 0 k []:=⟨SlR.nil_,Nat.le_refl _,fun _=>rfl,fun a e=>by cases e⟩
theorem SlW.kept {S : List Nat} (h : SlW w A n cap k L) (hk : Keep S w w') (hn : ∀ x ∈ blk A,x ∉ S) : SlW w' A n cap k L:=⟨h.rd.kept hk hn,h.le,h.nil,h.plain⟩
theorem SlW.below (h : SlW w A n cap k L) (hb : Below w.heap.size w w') : SlW w' A n cap k L:=⟨h.rd.below hb,h.le,h.nil,h.plain⟩
theorem SlW.len (h : SlW w A n cap k L) : L.length = n:=h.rd.1
theorem Own.slw {B : Nat} (h : Own w B E k A n cap L) : SlW w A n cap k L:=by
  have hA:=h.cap_le;refine ⟨h.slr,hA.1,fun e=>(hA.2 e).2,fun a e=>?_⟩;rcases h.addr with e' | ⟨g,e'⟩
  · rw [e'] at e;cases e
  · rw [e'] at e;injection e with e;rw [← e]
theorem SlW.lo (I : ElemInfo P T E k bytes) (h : SlW w A n cap k L) {m : Nat} (hm : m ≤ n) (w0 : World) : (slS T (.slice A n cap) none (some (.int .i64 m)) none).run P w0 = .ok (.slice A m cap) w0 :=
  run_slS_lo I w0 A n cap m (Nat.le_trans hm h.le)
theorem SlW.hi (I : ElemInfo P T E k bytes) (h : SlW w A n cap k L) {m : Nat} (hm : m ≤ n) :
    ∃ A2 c2,(∀ w0 : World,(slS T (.slice A n cap) (some (.int .i64 m)) none none).run P w0 = .ok (.slice A2 (n - m) c2) w0) ∧ (∀ w' : World,SlR w' A n k L → SlR w' A2 (n - m) k (L.drop m)) ∧ (A2 = none → c2 = 0):=by
  obtain ⟨A2,c2,h1,h2,h3⟩:=run_slS_hi (P:=P) I w A n cap m hm h.le h.nil h.plain;refine ⟨A2,c2,fun w0=>?_,fun w' hw=>h2 w' L hw,h3⟩;obtain ⟨A3,c3,k1,_,_⟩:=run_slS_hi (P:=P) I w0 A n cap m hm h.le h.nil h.plain;rw [run_slS I] at h1 k1 ⊢;unfold Instr.slice Instr.sliceBounds at h1 k1 ⊢;simp only [Sem.run_bind,run_underlying I.und,Result.andThen_ok,Sem.run_pure,run_bound _ m n hm,I.sizeOf_run,Option.isSome_none,Bool.false_eq_true,if_false] at h1 ⊢;injection h1 with h1 _
  rw [h1]
end
end
section
open Go.RowKit
@[go_sem] theorem bsIdN_run (w : World) : (bsS 26 0 #[]).run Tryz.prog w = .ok (.slice (some ⟨w.heap.size,0,none⟩) 0 0) (w.alloc (.cells #[] 24)):=run_bsS0 einfoId w
@[go_sem ↓] theorem slId_rw (x : Value) (lo hi mx : Option Value) : Instr.sliceAt 26 x lo hi mx = slS 26 x lo hi mx:=rfl
abbrev IdsW (w : World) (A : Option Addr) (n cap : Nat) (R : List Id32) : Prop:=SlW w A n cap 32 (R.map idC)
set_option maxRecDepth 100000 in
set_option maxHeartbeats 4000000 in
theorem rwith (w : World) (A : Option Addr) (n cap : Nat) (O : List Id32) (d : Id32) (h : IdsW w A n cap O) (hn : n ≤ 1000000) (hris : Ris cmpId O) :
    Calls Tryz.prog 41 #[.slice A n cap,.agg (idC d)] w fun e w'=>∃ A' cap',e = .returned (.slice A' (insC cmpId O d).length cap') ∧ IdsW w' A' (insC cmpId O d).length cap' (insC cmpId O d) ∧ (∀ x ∈ blk A',x ∈ blk A ∨ w.heap.size ≤ x) ∧ Below w.heap.size w w':=by
  have hlen : O.length = n:=by simpa using h.len
  have hB : Below w.heap.size w (w.alloc (.cells (idC d) 24)):=(Below.refl _ _).alloc (Nat.le_refl _) _;have hd0 : rowAt (w.alloc (.cells (idC d) 24)) w.heap.size 0 32 = some (idC d):=by simp [go_sem]
  have h0:=h.below hB;have c1:=rhas6 (w.alloc (.cells (idC d) 24)) A n cap O d h0.rd (by omega);have Hlen:=Lib.hid hlen;clear hlen;by_cases hin : d ∈ O
  · rw [decide_eq_true hin] at c1;have hat:=insC_old totId hris hin;have Hat:=Lib.hid hat;clear hat hin;go_enter Tryz.func41,Tryz.ntmps41
    (go_wp2_with fail);refine c1.mono ?_;rintro e w1 ⟨rfl,hb1⟩;have h1:=h0.below hb1;have hbb:=bel2 hB hb1;clear c1;(go_wp2_with fail);go_ret;refine ⟨A,cap,by rw [Hat.out,Hlen.out];rfl,by rw [Hat.out,Hlen.out];exact h1,fun x hx=>.inl hx,hbb⟩
  · rw [decide_eq_false hin] at c1;have Hin:=Lib.hid hin;clear hin;go_enter Tryz.func41,Tryz.ntmps41
    go_upto_region 1 with fail
    obtain ⟨gx,hgx⟩ : ∃ gx,w.heap.size = gx:=⟨_,rfl⟩
    have Hgx:=Lib.hid hgx;rw [hgx] at hd0 hB ⊢;obtain ⟨W0,hW0⟩ : ∃ W0,W0 = w.alloc (.cells (idC d) 24):=⟨_,rfl⟩
    rw [← hW0] at h0 hd0 hB c1 ⊢;clear hW0 hgx;(go_wp2_with fail);refine c1.mono ?_;rintro e w1 ⟨rfl,hb1⟩;have h1:=h0.below hb1;have hbb : Below gx w w1:=hB.trans (hb1.mono (by have:=hB.size;have:=Hgx.out;omega));have hr1 : rowAt w1 gx 0 32 = some (idC d):=(rowAt_of_block (hb1.block gx (rowAt_lt hd0)) _ _).trans hd0;clear c1 hd0 hb1 hB h0;(go_wp2_with fail);go_loopw [5] (fun j wj=>∃ m : Nat,m ≤ n ∧ j = .int .i64 m ∧ Hid (∀ i (hi : i < O.length),i < m → cmpId O[i] d < 0) ∧ Below w1.heap.size w1 wj) (fun j _=>n - (intOf j).toNat)
    case atStart=>exact ⟨0,Nat.zero_le _,rfl,(show ∀ i (hi : i < O.length),i < 0 → _ from fun i _ h=>absurd h (by omega)),Below.refl _ _⟩
    case round =>
      obtain ⟨m,hmO,rfl,hlow,hbj⟩:=hrel;have hrj : rowAt wr gx 0 32 = some (idC d):=(rowAt_of_block (hbj.block gx (rowAt_lt hr1)) _ _).trans hr1;have hswj:=h1.below hbj;by_cases hmlt : m < n
      · obtain ⟨q,o,rfl,hrO⟩:=TagsIn.get hswj.rd hmlt (by rw [Hlen.out];exact hmlt);have hmem : O[m]'(by rw [Hlen.out];exact hmlt) ∈ O:=List.getElem_mem _;obtain ⟨y,hy⟩ : ∃ y,O[m]'(by rw [Hlen.out];exact hmlt) = y:=⟨_,rfl⟩
        rw [hy] at hrO hmem;have Hy:=Lib.hid hy;have Hmem:=Lib.hid hmem;clear hy hmem;have c2:=rcompare y d wr.drew;obtain ⟨c,hc⟩ : ∃ c,cmpId y d = c:=⟨_,rfl⟩
        rw [hc] at c2;have Hc:=Lib.hid hc;clear hc;go_upto_region 4 with fail
        refine wp_region_lex (Bel wr) false (by kernel_rfl) (by kernel_rfl) (by kernel_rfl) (bel_drew wr) ?_;have hne:=bel_some wr;have hS:=bel_drew wr;have b1:=sub_row hrj;have b2:=sub_row hrO;repeat (refine wpLx_loose ?_ ?_;(focus (simp only [chainOp];done));intro K hK;go_simp;refine hK _ ?_;clear hK K)
        refine wpLx_chain ?_ ?_ ?_;(focus (exact hS));(focus (simp only [chainOp];done));intro K hK;go_simp;refine (c2).mono ?_;rintro e w' ⟨rfl,hb⟩;replace hS:=bel_next hS hb;refine ⟨_,rfl,hS,hK _ _ ?_⟩;clear hK K hb;repeat (refine wpLx_loose ?_ ?_;(focus (simp only [chainOp];done));intro K hK;go_simp;refine hK _ ?_;clear hK K)
        refine wpLx_nil ?_;intro hS;have hS' : Below wr.heap.size wr w':=hS;have hbz:=bel2 hbj hS';clear b1 b2 hne hS c2;by_cases hyx : c < 0
        · (go_wp2_with fail);go_roundw
          case rel =>
            refine ⟨m + 1,by omega,by go_num,(show ∀ i (hi : i < O.length),i < m + 1 → cmpId O[i] d < 0 from fun i hi hlt=>?_),hbz⟩;by_cases e : i = m
            · subst e;rw [Hy.out,Hc.out];exact hyx
            · exact hlow.out i hi (by omega)
          case measure=>simp [intOf];omega
        · have hat:=insC_at (c:=cmpId) O d m (by rw [Hlen.out];exact hmO) hlow.out (fun hk'=>by
            rw [Hy.out,Hc.out];have h1 : c ≠ 0:=fun e=>Hin.out (by rw [← (totId.zero _ _).1 (Hc.out.trans e)];exact Hmem.out);omega)
          have Hat:=Lib.hid hat;have hsw:=h1.below hbz;have hrx : rowAt w' gx 0 32 = some (idC d):=(rowAt_of_block (hbz.block gx (rowAt_lt hr1)) _ _).trans hr1;have hBw : Below gx w w':=hbb.trans (hbz.mono (by have:=rowAt_lt hr1;omega));clear hat hrO hrj hbj hbz hS' hswj;obtain ⟨W,rfl⟩ : ∃ W,W = w':=⟨w',rfl⟩
          obtain ⟨A,hA1⟩ : ∃ A,(some ⟨q,o,none⟩ : Option Addr) = A:=⟨_,rfl⟩
          rw [hA1] at hsw ⊢;clear hA1;have hBx : Below W.heap.size W (W.alloc (.cells #[] 24)):=(Below.refl _ _).alloc (Nat.le_refl _) _;have hown0:=Own.empty W W.heap.size 24 32 (Nat.le_refl _);have hlo : ∀ w0 : World,(slS 26 (.slice A n cap) none (some (.int .i64 m)) none).run Tryz.prog w0 = .ok (.slice A m cap) w0:=fun w0=>SlW.lo einfoId hsw hmO w0;obtain ⟨Ah,ch,hhi,hhs,hhf⟩:=hsw.hi (P:=Tryz.prog) einfoId (m:=m) hmO;have hslo : SlR (W.alloc (.cells #[] 24)) A m 32 ((O.map idC).take m):=(hsw.rd.below hBx).take_ hmO;have hf1:=hsw.nil;have hrone : ∀ r ∈ (O.map idC).take m,∀ u ∈ r.toList,u.oneCell' = true:=fun r hr=>(by obtain ⟨y',_,rfl⟩:=List.mem_map.1 (List.mem_of_mem_take hr);exact idC_one _);have hrone2 : ∀ r ∈ (O.map idC).drop m,∀ u ∈ r.toList,u.oneCell' = true:=fun r hr=>(by obtain ⟨y',_,rfl⟩:=List.mem_map.1 (List.mem_of_mem_drop hr);exact idC_one _);go_upto_region 7 with (at_builtin;refine L_appends einfoId rfl hown0 rfl hslo hf1 hrone (by omega) (by omega) (by simp) ?_;intro A2 cap2 w2 hown2 hk2 hsub2)
          simp only [Nat.zero_add,List.nil_append] at hown2;have hwW : Below W.heap.size W w2:=hBx.trans (hk2.below (by simp) (by simp [blk]));have hrw2 : rowAt w2 gx (0) 32 = some (idC d):=(rowAt_of_block (hwW.block gx (rowAt_lt hrx)) _ _).trans hrx;have hB3 : Below w2.heap.size w2 (w2.alloc (.cells (idC d) 24)):=(Below.refl _ _).alloc (Nat.le_refl _) _;have hown3:=hown2.below hB3;have hrow3 : rowAt (w2.alloc (.cells (idC d) 24)) w2.heap.size 0 32 = some (idC d):=by simp [go_sem]
          have hsz2:=hwW.size;go_upto_region 8 with (at_builtin;refine L_append einfoId rfl hown3 rfl hrow3 (idC_one _) (by omega) (by omega) (by simp;omega) ?_;intro A4 cap4 w4 hown4 hk4 hsub4)
          have hwW4 : Below W.heap.size W w4:=(hwW.trans (hB3.mono hsz2)).trans (hk4.below (by simp;omega) (fun x hx=>(hown2.at_base hx).1));have hs4:=hhs w4 (hsw.rd.below hwW4);have hsz4:=hwW4.size;clear hown3 hrow3 hB3 hown0 hBx hslo hrw2 hlo;go_upto_region 9 with (at_builtin;refine L_appends einfoId rfl hown4 rfl hs4 hhf hrone2 (by omega) (by omega) (by omega) ?_;intro A5 cap5 w5 hown5 hk5 hsub5)
          have hwW5 : Below W.heap.size W w5:=hwW4.trans (hk5.below (by omega) (fun x hx=>(hown4.at_base hx).1));have hO5 : (O.map idC).take m ++ [idC d] ++ (O.map idC).drop m = (O.take m ++ d :: O.drop m).map idC:=by simp [List.map_take,List.map_drop]
          rw [hO5] at hown5;clear hown4 hown2 hO5 hs4 hhi hhs hrone hrone2 hf1;have hL5 : (O.take m ++ d :: O.drop m).length = m + 1 + (n - m):=by simp [Hlen.out];omega
          have hLn : (insC cmpId O d).length = m + 1 + (n - m):=by rw [Hat.out,hL5]
          rw [← Hat.out] at hown5;have HLn:=Lib.hid hLn;have hBf:=hBw.trans (hwW5.mono (by have:=rowAt_lt hrx;omega));have hbase : ∀ x ∈ blk A5,w.heap.size ≤ x:=fun x hx=>(by have h1:=(hown5.at_base hx).1;have h2:=hBw.size;have h3:=Hgx.out;omega);have HB:=Lib.hid hBf;have Hbase:=Lib.hid hbase;have Hown5:=Lib.hid hown5;clear hL5 hLn hBf hbase hown5;(go_wp2_with fail);go_ret;exact ⟨A5,cap5,by rw [HLn.out];rfl,by rw [HLn.out];exact Hown5.out.slw,fun x hx=>.inr (Hbase.out x hx),by rw [Hgx.out];exact HB.out⟩
      · have hd : decide (m < n) = false:=by simpa using hmlt
        have hat:=insC_at (c:=cmpId) O d m (by rw [Hlen.out];exact hmO) hlow.out (fun hk'=>absurd (by rw [← Hlen.out];exact hk') hmlt);have Hat:=Lib.hid hat;clear hat;go_upto_region 4 with fail
        refine wp_region_lex (Bel wr) false (by kernel_rfl) (by kernel_rfl) (by kernel_rfl) (bel_drew wr) ?_;have hne:=bel_some wr;have hS:=bel_drew wr;repeat (refine wpLx_loose ?_ ?_;(focus (simp only [chainOp];done));intro K hK;go_simp;refine hK _ ?_;clear hK K)
        refine wpLx_chain ?_ ?_ ?_;(focus (exact hS));(focus (simp only [chainOp];done));intro K hK;go_simp;refine hK _ _ ?_;clear hK K;repeat (refine wpLx_loose ?_ ?_;(focus (simp only [chainOp];done));intro K hK;go_simp;refine hK _ ?_;clear hK K)
        refine wpLx_nil ?_;intro hS;have hbz:=hbj.drew;have hsw:=h1.below hbz;have hrx : rowAt wr.drew gx 0 32 = some (idC d):=hrj;have hBw : Below gx w wr.drew:=hbb.trans (hbz.mono (by have:=rowAt_lt hr1;omega));clear hne hS hbz hrj hbj hmlt hd hswj;obtain ⟨W,hW⟩ : ∃ W,wr.drew = W:=⟨_,rfl⟩
        rw [hW] at hsw hBw hrx ⊢;clear hW;have hBx : Below W.heap.size W (W.alloc (.cells #[] 24)):=(Below.refl _ _).alloc (Nat.le_refl _) _;have hown0:=Own.empty W W.heap.size 24 32 (Nat.le_refl _);have hlo : ∀ w0 : World,(slS 26 (.slice A n cap) none (some (.int .i64 m)) none).run Tryz.prog w0 = .ok (.slice A m cap) w0:=fun w0=>SlW.lo einfoId hsw hmO w0;obtain ⟨Ah,ch,hhi,hhs,hhf⟩:=hsw.hi (P:=Tryz.prog) einfoId (m:=m) hmO;have hslo : SlR (W.alloc (.cells #[] 24)) A m 32 ((O.map idC).take m):=(hsw.rd.below hBx).take_ hmO;have hf1:=hsw.nil;have hrone : ∀ r ∈ (O.map idC).take m,∀ u ∈ r.toList,u.oneCell' = true:=fun r hr=>(by obtain ⟨y',_,rfl⟩:=List.mem_map.1 (List.mem_of_mem_take hr);exact idC_one _);have hrone2 : ∀ r ∈ (O.map idC).drop m,∀ u ∈ r.toList,u.oneCell' = true:=fun r hr=>(by obtain ⟨y',_,rfl⟩:=List.mem_map.1 (List.mem_of_mem_drop hr);exact idC_one _);go_upto_region 7 with (at_builtin;refine L_appends einfoId rfl hown0 rfl hslo hf1 hrone (by omega) (by omega) (by simp) ?_;intro A2 cap2 w2 hown2 hk2 hsub2)
        simp only [Nat.zero_add,List.nil_append] at hown2;have hwW : Below W.heap.size W w2:=hBx.trans (hk2.below (by simp) (by simp [blk]));have hrw2 : rowAt w2 gx (0) 32 = some (idC d):=(rowAt_of_block (hwW.block gx (rowAt_lt hrx)) _ _).trans hrx;have hB3 : Below w2.heap.size w2 (w2.alloc (.cells (idC d) 24)):=(Below.refl _ _).alloc (Nat.le_refl _) _;have hown3:=hown2.below hB3;have hrow3 : rowAt (w2.alloc (.cells (idC d) 24)) w2.heap.size 0 32 = some (idC d):=by simp [go_sem]
        have hsz2:=hwW.size;go_upto_region 8 with (at_builtin;refine L_append einfoId rfl hown3 rfl hrow3 (idC_one _) (by omega) (by omega) (by simp;omega) ?_;intro A4 cap4 w4 hown4 hk4 hsub4)
        have hwW4 : Below W.heap.size W w4:=(hwW.trans (hB3.mono hsz2)).trans (hk4.below (by simp;omega) (fun x hx=>(hown2.at_base hx).1));have hs4:=hhs w4 (hsw.rd.below hwW4);have hsz4:=hwW4.size;clear hown3 hrow3 hB3 hown0 hBx hslo hrw2 hlo;go_upto_region 9 with (at_builtin;refine L_appends einfoId rfl hown4 rfl hs4 hhf hrone2 (by omega) (by omega) (by omega) ?_;intro A5 cap5 w5 hown5 hk5 hsub5)
        have hwW5 : Below W.heap.size W w5:=hwW4.trans (hk5.below (by omega) (fun x hx=>(hown4.at_base hx).1));have hO5 : (O.map idC).take m ++ [idC d] ++ (O.map idC).drop m = (O.take m ++ d :: O.drop m).map idC:=by simp [List.map_take,List.map_drop]
        rw [hO5] at hown5;clear hown4 hown2 hO5 hs4 hhi hhs hrone hrone2 hf1;have hL5 : (O.take m ++ d :: O.drop m).length = m + 1 + (n - m):=by simp [Hlen.out];omega
        have hLn : (insC cmpId O d).length = m + 1 + (n - m):=by rw [Hat.out,hL5]
        rw [← Hat.out] at hown5;have HLn:=Lib.hid hLn;have hBf:=hBw.trans (hwW5.mono (by have:=rowAt_lt hrx;omega));have hbase : ∀ x ∈ blk A5,w.heap.size ≤ x:=fun x hx=>(by have h1:=(hown5.at_base hx).1;have h2:=hBw.size;have h3:=Hgx.out;omega);have HB:=Lib.hid hBf;have Hbase:=Lib.hid hbase;have Hown5:=Lib.hid hown5;clear hL5 hLn hBf hbase hown5;(go_wp2_with fail);go_ret;exact ⟨A5,cap5,by rw [HLn.out];rfl,by rw [HLn.out];exact Hown5.out.slw,fun x hx=>.inr (Hbase.out x hx),by rw [Hgx.out];exact HB.out⟩
set_option maxHeartbeats 1000000 in
theorem rset (w : World) (A : Option Addr) (n cap : Nat) (R : List Id32) (h : TagsIn w A n R) (hn : n ≤ 1000000) :
    Calls Tryz.prog 101 #[.slice A n cap] w fun e w'=>∃ A' cap',e = .returned (.slice A' (sortC cmpId R).length cap') ∧ IdsW w' A' (sortC cmpId R).length cap' (sortC cmpId R) ∧ (∀ x ∈ blk A',w.heap.size ≤ x) ∧ Below w.heap.size w w':=by
  have hlen:=h.len;have Hlen:=Lib.hid hlen;clear hlen;go_enter Tryz.func101,Tryz.ntmps101
  (go_wp2_with fail);go_loopw [3,4] (fun out i wr=>∃ (k : Nat) (A1 : Option Addr) (n1 cap1 : Nat) (O : List Id32),k ≤ n ∧ i = .int .i64 k ∧ out = .slice A1 n1 cap1 ∧ Hid (O = sortC cmpId (R.take k)) ∧ IdsW wr A1 n1 cap1 O ∧ (∀ x ∈ blk A1,w.heap.size ≤ x) ∧ Below w.heap.size w wr) (fun _ i _=>n - (intOf i).toNat)
  case atStart=>exact ⟨0,none,0,0,[],Nat.zero_le _,rfl,rfl,rfl,SlW.none_,by simp [blk],Below.refl _ _⟩
  case round =>
    obtain ⟨k,A1,n1,cap1,O,hk,rfl,rfl,hO,hsw,hbs,hb⟩:=hrel;have hn1 : O.length = n1:=by simpa using hsw.len
    by_cases hlt : k < n
    · obtain ⟨q,o,rfl,hr⟩:=TagsIn.get (SlR.below h hb) hlt (by rw [Hlen.out];exact hlt);have htk : sortC cmpId (R.take (k + 1)) = insC cmpId O (R[k]'(by rw [Hlen.out];exact hlt)):=by
        rw [List.take_add_one,List.getElem?_eq_getElem (by rw [Hlen.out];exact hlt),Option.toList_some,sortC_snoc,hO.out]
      have hol : n1 ≤ 1000000:=by have:=sortC_length (c:=cmpId) (R.take k);rw [← hO.out] at this;simp at this;have:=Hlen.out;omega
      have hris : Ris cmpId O:=by rw [hO.out];exact ris_sortC totId _
      obtain ⟨d,hd⟩ : ∃ d,R[k]'(by rw [Hlen.out];exact hlt) = d:=⟨_,rfl⟩
      rw [hd] at hr htk;have Htk:=Lib.hid htk;have Hol:=Lib.hid hol;have Hris:=Lib.hid hris;clear hd htk hn1 hol hris;have c1:=rwith wr A1 n1 cap1 O d hsw Hol.out Hris.out;(go_wp2_with fail);refine c1.mono ?_;rintro e w1 ⟨A2,cap2,rfl,hsw2,hsub2,hb1⟩;have hbb:=hb.trans (hb1.mono hb.size);have hsz:=hb.size;clear c1;(go_wp2_with fail);go_roundw
      case rel=>exact ⟨k + 1,A2,_,cap2,_,by omega,by go_num,rfl,(show _ = _ from Htk.out.symm),hsw2,fun x hx=>(hsub2 x hx).elim (hbs x) (fun h=>by omega),hbb⟩
      case measure=>simp [intOf];omega
    · have e : R.take k = R:=List.take_of_length_le (by rw [Hlen.out];omega);have hO':=hO.out;rw [e] at hO';subst hO';subst hn1;clear hO e;(go_wp2_with fail);go_ret;exact ⟨A1,cap1,rfl,hsw,hbs,hb⟩
end
section
open Go.RowKit
set_option maxHeartbeats 1000000 in
theorem rsame_ids (w : World) (A B : Option Addr) (n m cap cap' : Nat) (X Y : List Id32) (hx : TagsIn w A n X) (hy : TagsIn w B m Y) (hn : n ≤ 1000000) (hm : m ≤ 1000000) :
    Calls Tryz.prog 100 #[.slice A n cap,.slice B m cap'] w fun e w'=>e = .returned (.bool (decide (X = Y))) ∧ Below w.heap.size w w':=by
  have hlx:=hx.len;have hly:=hy.len;have Hlx:=Lib.hid hlx;have Hly:=Lib.hid hly;by_cases hnm : n = m
  · subst hnm;clear hlx hly;go_enter Tryz.func100,Tryz.ntmps100
    (go_wp2_with fail);go_loopw [5] (fun i wr=>∃ k : Nat,k ≤ n ∧ i = .int .i64 k ∧ Hid (X.take k = Y.take k) ∧ Below w.heap.size w wr) (fun i _=>n - (intOf i).toNat)
    case atStart=>exact ⟨0,Nat.zero_le _,rfl,rfl,Below.refl _ _⟩
    case round =>
      obtain ⟨k,hk,rfl,heq,hb⟩:=hrel;by_cases hlt : k < n
      · obtain ⟨q,o,rfl,hr⟩:=TagsIn.get (SlR.below hx hb) hlt (by rw [Hlx.out];exact hlt);obtain ⟨q2,o2,rfl,hr2⟩:=TagsIn.get (SlR.below hy hb) hlt (by rw [Hly.out];exact hlt);have hX : X.take (k + 1) = X.take k ++ [X[k]'(by rw [Hlx.out];exact hlt)]:=by rw [List.take_add_one,List.getElem?_eq_getElem (by rw [Hlx.out];exact hlt)];rfl
        have hY : Y.take (k + 1) = Y.take k ++ [Y[k]'(by rw [Hly.out];exact hlt)]:=by rw [List.take_add_one,List.getElem?_eq_getElem (by rw [Hly.out];exact hlt)];rfl
        obtain ⟨x,hx'⟩ : ∃ x,X[k]'(by rw [Hlx.out];exact hlt) = x:=⟨_,rfl⟩
        obtain ⟨y,hy'⟩ : ∃ y,Y[k]'(by rw [Hly.out];exact hlt) = y:=⟨_,rfl⟩
        rw [hx'] at hr hX;rw [hy'] at hr2 hY;have HX:=Lib.hid hX;have HY:=Lib.hid hY;clear hX hY;have HX':=Lib.hid hx';have HY':=Lib.hid hy';clear hx' hy';go_upto_region 6 with fail
        refine wp_region_lex (Bel wr) false (by kernel_rfl) (by kernel_rfl) (by kernel_rfl) (bel_drew wr) ?_;have hne:=bel_some wr;have hS:=bel_drew wr;have b1:=sub_row hr;have b2:=sub_row hr2;repeat (refine wpLx_loose ?_ ?_;(focus (simp only [chainOp];done));intro K hK;go_simp;refine hK _ ?_;clear hK K)
        refine wpLx_nil ?_;intro hS;clear hne hS b1 b2 hr hr2;have hb' : Below w.heap.size w wr.drew:=hb.drew;cases hpe : (x == y) with
        | true =>
          have e:=beq_iff_eq.1 hpe;have E:=Lib.hid e;clear e;(go_wp2_with fail);go_roundw
          case rel=>exact ⟨k + 1,by omega,by go_num,(show X.take (k + 1) = Y.take (k + 1) by rw [HX.out,HY.out,heq.out,E.out]),hb'⟩
          case measure=>simp [intOf];omega
        | false =>
          have hne : X ≠ Y:=by
            intro e;subst e;have : x = y:=HX'.out.symm.trans HY'.out;rw [beq_iff_eq.2 this] at hpe;cases hpe
          have hd:=Lib.hid (decide_eq_false hne);clear hne;(go_wp2_with fail);go_ret;exact ⟨ret_bool (by rw [hd.out]),hb'⟩
      · have hkn : k = n:=by omega
        have e : X = Y:=by
          have:=heq.out
          rwa [List.take_of_length_le (by rw [Hlx.out];omega),List.take_of_length_le (by rw [Hly.out];omega)] at this
        have E:=Lib.hid (decide_eq_true e);clear e hkn;(go_wp2_with fail);go_ret;exact ⟨ret_bool (by rw [E.out]),hb⟩
  · have hne : X ≠ Y:=by intro e;subst e;exact hnm (hlx.symm.trans hly)
    have hd:=Lib.hid (decide_eq_false hne);have hnm2 : (n == m) = false:=by simpa using hnm
    have hnm3 : ((n : Int) == (m : Int)) = false:=by rw [beq_eq_false_iff_ne];omega
    clear hlx hly hne;go_enter Tryz.func100,Tryz.ntmps100
    (go_wp2_with fail);go_ret;exact ⟨ret_bool (by rw [hd.out]),Below.refl _ _⟩
end
section
open Go.RowKit
theorem ris_sort (R : List Id32) : decide (R = sortC cmpId R) = risI R:=by
  rw [Bool.eq_iff_iff,decide_eq_true_eq,risI_ok];exact ⟨fun h=>by rw [h];exact ris_sortC totId R,fun h=>(sortC_ris totId h).symm⟩
theorem ris6 (w : World) (A : Option Addr) (n cap : Nat) (R : List Id32) (h : TagsIn w A n R) (hn : n ≤ 1000000) :
    Calls Tryz.prog 62 #[.slice A n cap] w fun e w'=>e = .returned (.bool (risI R)) ∧ Below w.heap.size w w':=by
  have hlen:=h.len;have hsl:=sortC_length (c:=cmpId) R;rw [hlen] at hsl;have c1:=rset w A n cap R h hn;have c2:=fun w1 (hb : Below w.heap.size w w1) A' cap' (hs : IdsW w1 A' (sortC cmpId R).length cap' (sortC cmpId R))=>rsame_ids w1 A A' n (sortC cmpId R).length cap cap' R (sortC cmpId R) (SlR.below h hb) hs.rd hn (by omega);have Hs:=Lib.hid (ris_sort R);clear hlen hsl;go_enter Tryz.func62,Tryz.ntmps62
  (go_wp2_with fail);refine c1.mono ?_;rintro e w1 ⟨A',cap',rfl,hs,_,hb1⟩;(go_wp2_with fail);refine (c2 w1 hb1 A' cap' hs).mono ?_;rintro e w2 ⟨rfl,hb2⟩;(go_wp2_with fail);go_ret;exact ⟨ret_bool (by rw [Hs.out]),bel2 hb1 hb2⟩
end
section
open Go.RowKit
def lettersS : ByteArray:=⟨#[63,99,115,108,109,114]⟩
set_option maxHeartbeats 400000 in
theorem letters_any (w : World) :
    Calls Tryz.prog 39 #[] w fun e w'=>e = .returned (.string lettersS) ∧ w = w':=by
  go_enter Tryz.func39,Tryz.ntmps39
  (go_wp2_with fail);go_ret;exact ⟨rfl,rfl⟩
theorem lettersS_at {k : Nat} (h1 : 1 ≤ k) (h2 : k < 6) : ∃ h : k < lettersS.size,((lettersS[k]'h).toNat : Int) = letterC k:=by
  have : k = 1 ∨ k = 2 ∨ k = 3 ∨ k = 4 ∨ k = 5:=by omega
  rcases this with rfl | rfl | rfl | rfl | rfl <;> exact ⟨by decide,by decide⟩
theorem smallC_cases (c : Int) : smallC c = true ↔ (97 ≤ c ∧ c ≤ 122) ∨ (48 ≤ c ∧ c ≤ 57) ∨ c = 45:=by
  unfold smallC;simp;omega
set_option maxHeartbeats 400000 in
theorem rkind_short (s : ByteArray) (w : World) (hs : s.size ≤ 9223372036854775807) (h : ¬ (2 ≤ s.size ∧ s.size ≤ 12)) :
    Calls Tryz.prog 19 #[.string s] w fun e w'=>e = .returned (.int .i64 (kindB s)) ∧ Below w.heap.size w w':=by
  have H : Hid (kindB s = 0):=by show kindB s = 0;unfold kindB;rw [formedB_short s h];rfl
  by_cases h1 : 2 ≤ s.size
  · have h4 : 12 < s.size:=by omega
    clear h;go_enter Tryz.func19,Tryz.ntmps19
    go_wp2_with fail
    all_goals
      go_ret;exact ⟨ret_int H.out.symm,Below.refl _ _⟩
  · clear h;go_enter Tryz.func19,Tryz.ntmps19
    go_wp2_with fail
    all_goals
      go_ret;exact ⟨ret_int H.out.symm,Below.refl _ _⟩
set_option maxHeartbeats 400000 in
theorem rkind_last (s : ByteArray) (w : World) (h : 2 ≤ s.size) (h1 : s.size ≤ 12) (h2 : bt s (s.size - 1) = 45) :
    Calls Tryz.prog 19 #[.string s] w fun e w'=>e = .returned (.int .i64 (kindB s)) ∧ Below w.heap.size w w':=by
  have h3 : (((s[s.size - 1]'(by omega)).toNat : Int) == 45) = true:=by
    rw [beq_iff_eq];rw [bt_get (by omega)];exact h2
  have H : Hid (kindB s = 0):=by show kindB s = 0;unfold kindB;rw [formedB_last s h2];rfl
  clear h2;go_enter Tryz.func19,Tryz.ntmps19
  (go_wp2_with fail);go_ret;exact ⟨ret_int H.out.symm,Below.refl _ _⟩
set_option maxHeartbeats 1000000 in
theorem rkind_long (s : ByteArray) (w : World) (h : 2 ≤ s.size) (h1 : s.size ≤ 12) (h2 : bt s (s.size - 1) ≠ 45) :
    Calls Tryz.prog 19 #[.string s] w fun e w'=>e = .returned (.int .i64 (kindB s)) ∧ Below w.heap.size w w':=by
  have h3 : (((s[s.size - 1]'(by omega)).toNat : Int) == 45) = false:=by
    rw [beq_eq_false_iff_ne];intro g;rw [bt_get (by omega)] at g;exact h2 g
  have hfin:=formedB_tail s h h1 h2;have H2:=Lib.hid hfin;clear h2 hfin;have h0 : (0 : Int) < s.size:=by omega
  have hg : ((s[0]'(by omega)).toNat : Int) = bt s 0:=bt_get (by omega);go_enter Tryz.func19,Tryz.ntmps19
  go_wp2_with fail
  go_loop [3] (fun iv=>∃ i : Nat,1 ≤ i ∧ i ≤ s.size ∧ iv = .int .i64 i ∧ Hid (tailB s i = tailB s 1)) (fun iv=>s.size - (intOf iv).toNat)
  case atStart=>exact ⟨1,by omega,by omega,rfl,rfl⟩
  case round =>
    obtain ⟨i,hi1,hi2,rfl,hc⟩:=hrel;by_cases hp : i < s.size
    · have hgi : ((s[i]'hp).toNat : Int) = bt s i:=bt_get hp;cases hb : smallC (bt s i) with
      | true =>
        have hb':=(smallC_cases _).1 hb;rw [← hgi] at hb';have Hb:=Lib.hid hb;clear hb hgi;go_wp2_with fail
        all_goals
          go_round
          case rel=>exact ⟨i + 1,by omega,by omega,by go_num,(tailB_yes s _ Hb.out).trans hc.out⟩
          case measure=>simp [intOf];omega
      | false =>
        have hb' : ¬ ((97 ≤ bt s i ∧ bt s i ≤ 122) ∨ (48 ≤ bt s i ∧ bt s i ≤ 57) ∨ bt s i = 45):=fun g=>(by rw [(smallC_cases _).2 g] at hb;cases hb);rw [← hgi] at hb';have hb2 : (((s[i]'hp).toNat : Int) != 45) = true:=by rw [bne_iff_ne];omega
        have Hb:=Lib.hid hb;clear hb hgi;go_wp2_with fail
        all_goals
          go_ret;exact ⟨ret_int (by unfold kindB;rw [H2.out,← hc.out,tailB_no s _ (by omega) Hb.out];rfl),Below.refl _ _⟩
    · have hfm : kindB s = kindC (bt s 0):=by unfold kindB;rw [H2.out,← hc.out,tailB_end s _ (by omega)];rfl
      have H:=Lib.hid hfm;clear hfm;(go_wp2_with fail);go_loopw [5] (fun kv wr=>∃ k : Nat,1 ≤ k ∧ k ≤ 6 ∧ kv = .int .i64 k ∧ Below w.heap.size w wr ∧ Hid (∀ j : Int,1 ≤ j → j < k → letterC j ≠ bt s 0)) (fun kv _=>(6 - intOf kv).toNat)
      case atStart=>exact ⟨1,by omega,by omega,rfl,Below.refl _ _,fun j h1 h2=>by omega⟩
      case round =>
        obtain ⟨k,hk1,hk2,rfl,hb1,hj⟩:=hrel;by_cases hk : k < 6
        · obtain ⟨hks,hkl⟩:=lettersS_at hk1 hk;have hks' : (k : Int) < lettersS.size:=by omega
          by_cases hl : letterC k = bt s 0
          · have hl' : (((lettersS[k]'hks).toNat : Int) == bt s 0) = true:=by rw [beq_iff_eq,hkl];exact hl
            have Hl:=Lib.hid hl;clear hl hkl;go_wp2_with fail
            go_quiet ((go_at_call 39;exact quiet_eq (letters_any _)))
            (go_wp2_with fail);go_ret;exact ⟨ret_int (by rw [H.out,kindC_hit (by omega) (by omega) Hl.out]),below_drewN hb1 _⟩
          · have hl' : (((lettersS[k]'hks).toNat : Int) == bt s 0) = false:=by rw [beq_eq_false_iff_ne,hkl];exact hl
            have Hl:=Lib.hid hl;clear hl hkl;go_wp2_with fail
            go_quiet ((go_at_call 39;exact quiet_eq (letters_any _)))
            (go_wp2_with fail);go_roundw
            case rel =>
              refine ⟨k + 1,by omega,by omega,by go_num,below_drewN hb1 _,fun j h1 h2=>?_⟩;by_cases e : j = k
              · subst e;exact Hl.out
              · exact hj.out j h1 (by omega)
            case measure=>simp [intOf];omega
        · (go_wp2_with fail);go_ret;exact ⟨ret_int (by rw [H.out,kindC_miss (fun j h1 h2=>hj.out j h1 (by omega))]),hb1⟩
theorem rkind_any (s : ByteArray) (w : World) (hs : s.size ≤ 9223372036854775807) :
    Calls Tryz.prog 19 #[.string s] w fun e w'=>e = .returned (.int .i64 (kindB s)) ∧ Below w.heap.size w w':=by
  by_cases h : 2 ≤ s.size ∧ s.size ≤ 12
  · by_cases h2 : bt s (s.size - 1) = 45
    · exact rkind_last s w h.1 h.2 h2
    · exact rkind_long s w h.1 h.2 h2
  · exact rkind_short s w hs h
end
section
open Go.RowKit
theorem checkB_kind (s : ByteArray) : checkB s ≠ 0 ↔ kindB s = 0:=by
  unfold checkB;split
  · rename_i h;simp [h]
  · rename_i h;simp [h]
set_option maxRecDepth 100000 in
set_option maxHeartbeats 4000000 in
theorem rh_check (w : World) (h : HdV) (A : Option Addr) (c : Nat) (hT : TagsIn w A h.ps.length h.ps) (hn : h.ps.length ≤ 9223372036854775807) (ht : h.tp.size ≤ 9223372036854775807) :
    Calls Tryz.prog 26 #[.agg (hdC (hdO h A c))] w fun e w'=>e = .returned (.int .i64 (hdE h)) ∧ Below w.heap.size w w':=by
  obtain ⟨E,hE⟩ : ∃ E,hdE h = E:=⟨_,rfl⟩
  rw [hE];unfold hdE at hE;have hck:=checkB_kind h.tp;have hB : Below w.heap.size w (w.alloc (.cells (hdC (hdO h A c)) 30)):=(Below.refl _ _).alloc (Nat.le_refl _) _;have hr : rowAt (w.alloc (.cells (hdC (hdO h A c)) 30)) w.heap.size 0 38 = some (hdC (hdO h A c)):=by simp [go_sem]
  have x0:=rowAt_cell hr (j:=0) (by omega);have x1:=rowAt_cell hr (j:=1) (by omega);have x2:=rowAt_cell hr (j:=2) (by omega);have x3:=rowAt_cell hr (j:=3) (by omega);have x4:=rowAt_cell hr (j:=4) (by omega);have x5:=rowAt_cell hr (j:=5) (by omega);have x6:=rowAt_sub hr (j:=6) (m:=32) (by omega);simp only [hdC_g0,hdC_g1,hdC_g2,hdC_g3,hdC_g4,hdC_g5,hdC_e6,Nat.zero_add,hdO] at x0 x1 x2 x3 x4 x5 x6;have hT0:=SlR.below hT hB;have ckd:=fun w=>rkind_any h.tp w ht;clear hr hT;obtain ⟨ps,H,tp,au,sq,sz,cm⟩:=h;simp only [hdO] at *;have hq : (((ps.length : Int) == 0) == (H == 1)) = !((ps.length == 0) != (H == 1)):=by
    have e : ((ps.length : Int) == 0) = (ps.length == 0):=by rw [Bool.eq_iff_iff];simp
    rw [e];simp [bne]
  obtain ⟨W,hW⟩ : ∃ W,W = w.alloc (.cells (hdC ⟨.slice A ps.length c,H,tp,au,sq,sz,cm⟩) 30):=⟨_,rfl⟩
  rw [← hW] at hB x0 x1 x2 x3 x4 x5 x6 hT0;have cis:=fun hn=>ris6 W A _ c _ hT0 hn;have HW:=Lib.hid hW;have HE:=Lib.hid hE;have Hck:=Lib.hid hck;have Hq:=Lib.hid hq;obtain ⟨g,hg⟩ : ∃ g,w.heap.size = g:=⟨_,rfl⟩
  have Hg:=Lib.hid hg;have hgW : g < W.heap.size:=by rw [hW,← hg];simp
  clear hE hck hW hq;go_enter Tryz.func26,Tryz.ntmps26
  go_upto_region 1 with fail
  rw [← HW.out];rw [hg] at hB x0 x1 x2 x3 x4 x5 x6;clear hg;by_cases h1 : 4 < ps.length
  · have e1 : (4 : Int) < (ps.length : Int):=by omega
    have hE:=HE.out;rw [if_pos h1] at hE;have HE6:=Lib.hid hE;clear hE h1;(go_wp2_with fail);go_ret;exact ⟨ret_int HE6.out,by rw [Hg.out];exact hB⟩
  · have e1 : ¬ (4 : Int) < (ps.length : Int):=by omega
    have hE:=HE.out;rw [if_neg h1] at hE;have HE:=Lib.hid hE;clear hE;(go_wp2_with fail);refine (cis (by omega)).mono ?_;rintro e w2 ⟨rfl,hb2⟩;have hB2 : Below g w w2:=hB.trans (hb2.mono (by omega));have tr:=fun j (v : Value) (hx : W.cell? ⟨g,j,none⟩ = some v)=>(hb2.cell (p:=⟨g,j,none⟩) hgW).trans hx;have x0:=tr _ _ x0;have x1:=tr _ _ x1;have x2:=tr _ _ x2;have x3:=tr _ _ x3;have x4:=tr _ _ x4;have x5:=tr _ _ x5;have hgW2 : g < w2.heap.size:=by have:=hb2.size;omega
    clear tr cis;cases hri : risI ps with
    | false =>
      have hE:=HE.out;rw [if_pos hri] at hE;have HE6:=Lib.hid hE;clear hE hri;(go_wp2_with fail);go_ret;exact ⟨ret_int HE6.out,by rw [Hg.out];exact hB2⟩
    | true =>
      have hE:=HE.out;rw [if_neg (by rw [hri];simp)] at hE;have HE:=Lib.hid hE;clear hE hri;by_cases h2 : H < 1 ∨ 1073741824 < H
      · have hE:=HE.out;rw [if_pos h2] at hE;have HE6:=Lib.hid hE;clear hE;by_cases h3 : H < 1
        · clear h2;(go_wp2_with fail);go_ret;exact ⟨ret_int HE6.out,by rw [Hg.out];exact hB2⟩
        · have h4 : 1073741824 < H:=by omega
          clear h2;(go_wp2_with fail);go_ret;exact ⟨ret_int HE6.out,by rw [Hg.out];exact hB2⟩
      · have hE:=HE.out;rw [if_neg h2] at hE;have HE:=Lib.hid hE;clear hE;have h3 : ¬ H < 1:=by omega
        have h4 : ¬ 1073741824 < H:=by omega
        clear h2;cases hob : ((ps.length == 0) != (H == 1)) with
        | true =>
          have hE:=HE.out;rw [if_pos hob] at hE;have HE6:=Lib.hid hE;have hq2 : (((ps.length : Int) == 0) == (H == 1)) = false:=by rw [Hq.out,hob];rfl
          clear hE hob;(go_wp2_with fail);go_ret;exact ⟨ret_int HE6.out,by rw [Hg.out];exact hB2⟩
        | false =>
          have hE:=HE.out;rw [if_neg (by rw [hob];simp)] at hE;have HE:=Lib.hid hE;have hq2 : (((ps.length : Int) == 0) == (H == 1)) = true:=by rw [Hq.out,hob];rfl
          clear hE hob;(go_wp2_with fail);refine (ckd _).mono ?_;rintro e w3 ⟨rfl,hb3⟩;have hB3 : Below g w w3:=hB2.trans (hb3.mono (by omega));have tr:=fun j (v : Value) (hx : w2.cell? ⟨g,j,none⟩ = some v)=>(hb3.cell (p:=⟨g,j,none⟩) hgW2).trans hx;have x3:=tr _ _ x3;have x4:=tr _ _ x4;have x5:=tr _ _ x5;clear tr ckd;by_cases h5 : checkB tp ≠ 0
          · have hk0 : (kindB tp == 0) = true:=by rw [beq_iff_eq];exact Hck.out.1 h5
            have hE:=HE.out;rw [if_pos h5] at hE;have HE6:=Lib.hid hE;clear hE h5;(go_wp2_with fail);go_ret;exact ⟨ret_int HE6.out,by rw [Hg.out];exact hB3⟩
          · have hk0 : (kindB tp == 0) = false:=by rw [beq_eq_false_iff_ne];exact fun h=>h5 (Hck.out.2 h)
            have hE:=HE.out;rw [if_neg h5] at hE;have HE:=Lib.hid hE;clear hE h5;by_cases a1 : au < 0
            · have hE:=HE.out;rw [if_pos (.inl a1)] at hE;have HE6:=Lib.hid hE;clear hE;(go_wp2_with fail);go_ret;exact ⟨ret_int HE6.out,by rw [Hg.out];exact hB3⟩
            · by_cases a2 : 255 < au
              · have hE:=HE.out;rw [if_pos (.inr a2)] at hE;have HE6:=Lib.hid hE;clear hE;(go_wp2_with fail);go_ret;exact ⟨ret_int HE6.out,by rw [Hg.out];exact hB3⟩
              · have hE:=HE.out;rw [if_neg (by omega)] at hE;have HE:=Lib.hid hE;clear hE;by_cases b1 : sq < 1
                · have hE:=HE.out;rw [if_pos (.inl b1)] at hE;have HE6:=Lib.hid hE;clear hE;(go_wp2_with fail);go_ret;exact ⟨ret_int HE6.out,by rw [Hg.out];exact hB3⟩
                · by_cases b2 : 1073741824 < sq
                  · have hE:=HE.out;rw [if_pos (.inr b2)] at hE;have HE6:=Lib.hid hE;clear hE;(go_wp2_with fail);go_ret;exact ⟨ret_int HE6.out,by rw [Hg.out];exact hB3⟩
                  · have hE:=HE.out;rw [if_neg (by omega)] at hE;have HE:=Lib.hid hE;clear hE;by_cases c1 : sz < 1
                    · have hE:=HE.out;rw [if_pos (.inl c1)] at hE;have HE6:=Lib.hid hE;clear hE;(go_wp2_with fail);go_ret;exact ⟨ret_int HE6.out,by rw [Hg.out];exact hB3⟩
                    · by_cases c2 : 512 < sz
                      · have hE:=HE.out;rw [if_pos (.inr c2)] at hE;have HE6:=Lib.hid hE;clear hE;(go_wp2_with fail);go_ret;exact ⟨ret_int HE6.out,by rw [Hg.out];exact hB3⟩
                      · have hE:=HE.out;rw [if_neg (by omega)] at hE;have HE6:=Lib.hid hE;clear hE;(go_wp2_with fail);go_ret;exact ⟨ret_int HE6.out,by rw [Hg.out];exact hB3⟩
end
section
open Go.RowKit
def pow256 : Nat → Int | 0=>1 | k + 1=>256 * pow256 k
theorem beL_snoc (k n : Nat) : beL (k + 1) n = beL k (n / 256) ++ [UInt8.ofNat n]:=by
  induction k generalizing n with
  | zero=>simp [beL]
  | succ k ih =>
    have h1:=ih n;show UInt8.ofNat (n / 256 ^ (k + 1)) :: beL (k + 1) n = (UInt8.ofNat (n / 256 / 256 ^ k) :: beL k (n / 256)) ++ [UInt8.ofNat n];rw [h1,Nat.pow_succ,Nat.mul_comm,← Nat.div_div_eq_div_mul];rfl
theorem mk1 (w : World) : (Instr.makeSlice 89 (.int .i64 1) (.int .i64 1)).run Tryz.prog w = .ok (.slice (some ⟨w.heap.size,0,none⟩) 1 1) (w.alloc (.cells #[.int .u8 0] 5)):=by kernel_rfl
theorem mk4 (w : World) : (Instr.makeSlice 89 (.int .i64 4) (.int .i64 4)).run Tryz.prog w = .ok (.slice (some ⟨w.heap.size,0,none⟩) 4 4) (w.alloc (.cells #[.int .u8 0,.int .u8 0,.int .u8 0,.int .u8 0] 5)):=by kernel_rfl
theorem conv_bytes (w : World) (bs : List UInt8) (n : Nat) (hn : n = bs.length) (cs : Array Value) (hc : cs = (bs.map byteC).toArray) :
    (convert 89 9 (.slice (some ⟨w.heap.size,0,none⟩) n n)).run Tryz.prog (w.alloc (.cells cs 5)) = .ok (.string ⟨bs.toArray⟩) (w.alloc (.cells cs 5)):=by
  subst hn;subst hc;exact run_convert_bytes_back (P:=Tryz.prog) _ 89 9 5 ⟨w.heap.size,0,none⟩ bs.length bs Tryz.underlying89 Tryz.underlying5 Tryz.underlying9 (fun j hj=>by simp [go_sem,byteC,hj])
theorem u8n (n : Nat) : ((n : Int) % 256) = ((UInt8.ofNat n).toNat : Int):=by simp
set_option maxHeartbeats 1000000 in
set_option maxRecDepth 100000 in
theorem rnum1 (n : Nat) (w : World) (h : n < 256) :
    Calls Tryz.prog 63 #[.int .i64 n,.int .i64 1] w fun e w'=>e = .returned (.tuple #[.string ⟨(beL 1 n).toArray⟩,.int .i64 0]) ∧ Below w.heap.size w w':=by
  have hd1 : decide ((n : Int) < 0) = false:=by simp
  have hd2 : decide (256 ≤ (n : Int)) = false:=by simp;omega
  have hcv:=conv_bytes w (beL 1 n) 1 rfl #[.int .u8 ((n : Int) % 256)] (by rw [u8n];simp [beL,byteC]);obtain ⟨bs,hbs⟩ : ∃ bs,beL 1 n = bs:=⟨_,rfl⟩
  rw [hbs] at hcv ⊢;clear hbs;have hmk:=mk1;go_enter Tryz.func63,Tryz.ntmps63
  (go_wp2_with fail);refine wp_loop_rounds 1 ?_;rw [rounds_succ];(go_wp2_with fail);refine wp_loop_rounds 2 ?_;rw [rounds_succ];(go_wp2_with fail);rw [rounds_succ];(go_wp2_with fail);go_ret2;exact ⟨rfl,(Below.refl _ _).alloc (Nat.le_refl _) _⟩
set_option maxHeartbeats 1000000 in
set_option maxRecDepth 100000 in
theorem rnum4 (n : Nat) (w : World) (h : n < 4294967296) :
    Calls Tryz.prog 63 #[.int .i64 n,.int .i64 4] w fun e w'=>e = .returned (.tuple #[.string ⟨(beL 4 n).toArray⟩,.int .i64 0]) ∧ Below w.heap.size w w':=by
  have hd1 : decide ((n : Int) < 0) = false:=by simp
  have hd2 : decide (4294967296 ≤ (n : Int)) = false:=by simp;omega
  have hcv:=conv_bytes w (beL 4 n) 4 rfl #[.int .u8 ((n : Int) / 256 / 256 / 256 % 256),.int .u8 ((n : Int) / 256 / 256 % 256),.int .u8 ((n : Int) / 256 % 256),.int .u8 ((n : Int) % 256)] (by
    have e1 : (n : Int) / 256 = ((n / 256 : Nat) : Int):=by simp
    have e2 : ((n / 256 : Nat) : Int) / 256 = ((n / 256 / 256 : Nat) : Int):=by simp
    have e3 : ((n / 256 / 256 : Nat) : Int) / 256 = ((n / 256 / 256 / 256 : Nat) : Int):=by simp
    rw [e1,e2,e3,u8n,u8n,u8n,u8n,beL_snoc,beL_snoc,beL_snoc];simp [beL,byteC])
  obtain ⟨bs,hbs⟩ : ∃ bs,beL 4 n = bs:=⟨_,rfl⟩
  rw [hbs] at hcv ⊢;clear hbs;have hmk:=mk4;go_enter Tryz.func63,Tryz.ntmps63
  (go_wp2_with fail);refine wp_loop_rounds 4 ?_;rw [rounds_succ];(go_wp2_with fail);rw [rounds_succ];(go_wp2_with fail);rw [rounds_succ];(go_wp2_with fail);rw [rounds_succ];(go_wp2_with fail);refine wp_loop_rounds 5 ?_;rw [rounds_succ];(go_wp2_with fail);rw [rounds_succ];(go_wp2_with fail);rw [rounds_succ];(go_wp2_with fail);rw [rounds_succ];(go_wp2_with fail);rw [rounds_succ];(go_wp2_with fail);go_ret2;exact ⟨rfl,(Below.refl _ _).alloc (Nat.le_refl _) _⟩
end
section
open Go.RowKit
theorem bs1_u8 (w : World) (c : Int) : (Instr.buildSlice 89 1 #[(0,.int .u8 c)]).run Tryz.prog w = .ok (.slice (some ⟨w.heap.size,0,none⟩) 1 1) (w.alloc (.cells #[.int .u8 c] 5)):=by
  have h0 : (bsS 89 1 #[(0,.agg #[.int .u8 c])]).run Tryz.prog w = _:=run_bsS1 einfoByte (by omega) w #[.int .u8 c] (by simp);exact h0
end
end Go.Proofs.YtgedpfebepdcmaaGreatDoor
