/- Part 5 of the texts that lead to this claim: the walks of the functions and the plain law, in order. -/
import Derived.Test.YtgfpjjppeldhbaaGreatDoorMt4
import Derived.IntWalk
namespace Go.Proofs.YtgfpjjppeldhbaaGreatDoor
section
open Go.RowKit
def dAC (x : OpP) (d : Id32) (h : Int) : Array Value:=opPC x ++ idC d ++ #[.int .i64 h]
section
variable (x : OpP) (d : Id32) (h : Int)
@[simp] theorem dAC_size : (dAC x d h).size = 70:=by simp [dAC]
@[go_sem] theorem dAC_e0 : (dAC x d h).extract 0 37 = opPC x:=by
  have e : dAC x d h = #[] ++ opPC x ++ (idC d ++ #[.int .i64 h]):=by simp [dAC,Array.append_assoc]
  rw [e];exact arr_mid _ _ _ _ _ (by simp) (by simp)
@[go_sem] theorem dAC_e37 : (dAC x d h).extract 37 69 = idC d:=arr_mid _ _ _ _ _ (by simp) (by simp)
@[go_sem] theorem dAC_all : (dAC x d h).extract 0 70 = dAC x d h:=by have:=Array.extract_size (xs:=dAC x d h);rwa [dAC_size] at this
theorem dAC_low {i : Nat} (hi : i < 37) : (dAC x d h)[i]? = (opPC x)[i]?:=by
  unfold dAC;rw [Array.append_assoc,Array.getElem?_append_left (by simp;omega)]
@[go_sem] theorem dAC_g0 : (dAC x d h)[0]? = some (.int .i64 x.k):=(dAC_low x d h (by omega)).trans (opPC_g0 x)
@[go_sem] theorem dAC_g1 : (dAC x d h)[1]? = some (.int .i64 x.n):=(dAC_low x d h (by omega)).trans (opPC_g1 x)
@[go_sem] theorem dAC_g2 : (dAC x d h)[2]? = some (.string x.key):=(dAC_low x d h (by omega)).trans (opPC_g2 x)
@[go_sem] theorem dAC_g3 : (dAC x d h)[3]? = some (.string x.val):=(dAC_low x d h (by omega)).trans (opPC_g3 x)
@[go_sem] theorem dAC_g36 : (dAC x d h)[36]? = some x.refs:=(dAC_low x d h (by omega)).trans (opPC_g36 x)
@[go_sem] theorem dAC_e4 : (dAC x d h).extract 4 36 = idC x.ref:=by
  have e : (dAC x d h).extract 4 36 = ((dAC x d h).extract 0 37).extract 4 36:=by rw [Array.extract_extract];simp
  rw [e,dAC_e0,opPC_e4]
@[go_sem] theorem dAC_g69 : (dAC x d h)[69]? = some (.int .i64 h):=by
  have e : dAC x d h = (opPC x ++ idC d) ++ #[.int .i64 h] ++ #[]:=by simp [dAC]
  rw [e];exact arr_at _ _ _ _ (by simp)
theorem dAC_one (hx : x.refs.oneCell' = true) : ∀ u ∈ (dAC x d h).toList,u.oneCell' = true:=by
  intro u hu;simp only [dAC,Array.toList_append,List.mem_append] at hu;rcases hu with (hu | hu) | hu
  · exact opPC_one x hx u hu
  · exact idC_one d u hu
  · simp at hu;subst hu;rfl
end
theorem infoAct : (Tryz.prog.info? 139).map (·.size) = some 70:=by kernel_rfl
@[go_sem ↓] theorem zeroAct_run (w : World) : (zeroValue 139).run Tryz.prog w = .ok (.agg (dAC opP0 id0 0)) w:=by
  have h : (Tryz.prog.info? 139).bind (·.zero) = some (.agg (dAC opP0 id0 0)):=by kernel_rfl
  cases hi : Tryz.prog.info? 139 with
  | none=>rw [hi] at h;cases h
  | some i =>
    rw [hi] at h;have hz : i.zero = some (.agg (dAC opP0 id0 0)):=h;simp [zeroValue,typeInfo,hi,hz]
@[go_sem ↓] theorem loadAct_rw (a : Addr) : loadVar 139 a = ldS 139 a:=rfl
@[go_sem ↓] theorem storeAct_rw (a : Addr) (v : Value) : storeVar 139 a v = stS 139 a v:=rfl
@[go_sem] theorem loadAct_run (w : World) (g o : Nat) : (ldS 139 ⟨g,o,none⟩).run Tryz.prog w = match rowAt w g o 70 with | some cs=>.ok (.agg cs) w | none=>(loadVar 139 ⟨g,o,none⟩).run Tryz.prog w :=
  run_ldS Tryz.underlying139 rfl infoAct w g o
theorem fieldsAct : Tryz.prog.underlying 139 = some (.struct (Tryz.prog.fieldsOf 139)):=by kernel_rfl
theorem placesAct (w : World) : ((Tryz.prog.fieldsOf 139).mapM fun (f : Field)=>do pure (f.offset,← sizeOf f.type)).run Tryz.prog w = .ok #[(0,37),(37,32),(69,1)] w:=by kernel_rfl
@[go_sem ↓] theorem buildAct_rw (parts : Array (Nat × Value)) : Instr.build 139 parts = bdS 139 parts:=rfl
@[go_sem] theorem buildAct (x : OpP) (d : Id32) (h : Int) (w : World) : (bdS 139 #[(0,.agg (opPC x)),(1,.agg (idC d)),(2,.int .i64 h)]).run Tryz.prog w = .ok (.agg (dAC x d h)) w:=by
  refine run_build w fieldsAct _ (zeroAct_run w) _ (placesAct w) [(0,.agg (opPC x)),(1,.agg (idC d)),(2,.int .i64 h)] _ ?_;rw [show dAC opP0 id0 0 = (#[] : Array Value) ++ opPC opP0 ++ (idC id0 ++ #[.int .i64 0]) from by simp [dAC,Array.append_assoc]];rw [fill_step (off:=0) (size:=37) rfl (by simp) (by simp) (by simp [Value.cells])];rw [show (#[] : Array Value) ++ (Value.agg (opPC x)).cells ++ (idC id0 ++ #[.int .i64 0]) = opPC x ++ idC id0 ++ #[.int .i64 0] from by simp [Value.cells,Array.append_assoc]];rw [fill_step (off:=37) (size:=32) rfl (by simp) (by simp) (by simp [Value.cells])];rw [show opPC x ++ (Value.agg (idC d)).cells ++ #[.int .i64 0] = (opPC x ++ idC d) ++ #[.int .i64 0] ++ (#[] : Array Value) from by simp [Value.cells]];rw [fill_step (off:=69) (size:=1) rfl (by simp) (by simp) (by simp [Value.cells])];simp [Instr.fill,dAC,Value.cells]
theorem einfoAct : ElemInfo Tryz.prog 89 139 70 144 :=
  .of (z:=.agg (dAC opP0 id0 0)) Tryz.underlying89 (by kernel_rfl) (by kernel_rfl) (by kernel_rfl) (dAC_size _ _ _) (by omega)
@[go_sem ↓] theorem bsAct_rw (n : Nat) (parts : Array (Nat × Value)) : Instr.buildSlice 89 n parts = bsS 89 n parts:=rfl
@[go_sem] theorem bsAct_run (w : World) (x : OpP) (d : Id32) (h : Int) : (bsS 89 1 #[(0,.agg (dAC x d h))]).run Tryz.prog w = .ok (.slice (some ⟨w.heap.size,0,none⟩) 1 1) (w.alloc (.cells (dAC x d h) 139)) :=
  run_bsS1 einfoAct (by omega) w _ (dAC_size _ _ _)
structure ActM where
  m : MarkV
  A : Option Addr
  c : Nat
def opM (a : ActM) : OpP:=⟨(oOf a.m).k,(oOf a.m).n,(oOf a.m).key,(oOf a.m).val,(oOf a.m).ref,.slice a.A (oOf a.m).refs.length a.c⟩
def actR (a : ActM) : Array Value:=dAC (opM a) a.m.id a.m.h
@[simp] theorem actR_size (a : ActM) : (actR a).size = 70:=dAC_size _ _ _
section
variable (a : ActM)
@[go_sem] theorem actR_e37 : (actR a).extract 37 69 = idC a.m.id:=dAC_e37 _ _ _
@[go_sem] theorem actR_all : (actR a).extract 0 70 = actR a:=dAC_all _ _ _
@[go_sem] theorem actR_e4 : (actR a).extract 4 36 = idC (oOf a.m).ref:=dAC_e4 _ _ _
@[go_sem] theorem actR_g0 : (actR a)[0]? = some (.int .i64 (oOf a.m).k):=dAC_g0 _ _ _
@[go_sem] theorem actR_g1 : (actR a)[1]? = some (.int .i64 (oOf a.m).n):=dAC_g1 _ _ _
@[go_sem] theorem actR_g2 : (actR a)[2]? = some (.string (oOf a.m).key):=dAC_g2 _ _ _
@[go_sem] theorem actR_g3 : (actR a)[3]? = some (.string (oOf a.m).val):=dAC_g3 _ _ _
@[go_sem] theorem actR_g36 : (actR a)[36]? = some (.slice a.A (oOf a.m).refs.length a.c):=dAC_g36 _ _ _
@[go_sem] theorem actR_g69 : (actR a)[69]? = some (.int .i64 a.m.h):=dAC_g69 _ _ _
@[go_sem] theorem actR_i0 (h : 0 < (actR a).size) : (actR a)[0] = .int .i64 (oOf a.m).k:=Option.some.inj ((Array.getElem?_eq_getElem h).symm.trans (actR_g0 a))
@[go_sem] theorem actR_i1 (h : 1 < (actR a).size) : (actR a)[1] = .int .i64 (oOf a.m).n:=Option.some.inj ((Array.getElem?_eq_getElem h).symm.trans (actR_g1 a))
@[go_sem] theorem actR_i3 (h : 3 < (actR a).size) : (actR a)[3] = .string (oOf a.m).val:=Option.some.inj ((Array.getElem?_eq_getElem h).symm.trans (actR_g3 a))
end
theorem actR_one (a : ActM) : ∀ u ∈ (actR a).toList,u.oneCell' = true:=dAC_one _ _ _ rfl
@[go_sem] theorem storeActR_run (w : World) (g : Nat) (hg : g = w.heap.size) (z : Array Value) (hz : z.size = 70) (a : ActM) (e : TypeId) : (stS 139 ⟨g,0,none⟩ (.agg (actR a))).run Tryz.prog (w.alloc (.cells z e)) = .ok () (w.alloc (.cells (actR a) e)) :=
  hg ▸ run_stS_new infoAct w z _ hz (actR_size _) (actR_one _)
@[go_sem] theorem bsActR_run (w : World) (a : ActM) : (bsS 89 1 #[(0,.agg (actR a))]).run Tryz.prog w = .ok (.slice (some ⟨w.heap.size,0,none⟩) 1 1) (w.alloc (.cells (actR a) 139)) :=
  run_bsS1 einfoAct (by omega) w _ (actR_size _)
def RefsAt (w : World) (a : ActM) : Prop:=TagsIn w a.A (oOf a.m).refs.length (oOf a.m).refs
abbrev ActsIn (w : World) (A : Option Addr) (n : Nat) (L : List ActM) : Prop:=SlR w A n 70 (L.map actR)
theorem RefsAt.below {w w' : World} {a : ActM} (h : RefsAt w a) (hb : Below w.heap.size w w') : RefsAt w' a:=SlR.below h hb
theorem ActsIn.get {w : World} {A : Option Addr} {n : Nat} {L : List ActM} (h : ActsIn w A n L) {i : Nat} (hi : i < n) (hL : i < L.length) : ∃ g o,A = some ⟨g,o,none⟩ ∧ rowAt w g (o + i * 70) 70 = some (actR L[i]):=by
  obtain ⟨g,o,e,hr⟩:=h.at_ hi;exact ⟨g,o,e,by rw [hr,List.getElem_map]⟩
theorem ActsIn.len {w : World} {A : Option Addr} {n : Nat} {L : List ActM} (h : ActsIn w A n L) : L.length = n:=by simpa using h.1
end
namespace Stb
variable {α : Type}
def swp (f : Nat → α) (i j : Nat) : Nat → α:=fun k=>if k = i then f j else if k = j then f i else f k
def Sw (a b : Nat) (f f' : Nat → α) : Prop:=∃ s t : Nat → Nat,(∀ k,f' k = f (s k)) ∧ (∀ k,t (s k) = k) ∧ (∀ k,s (t k) = k) ∧ (∀ k,k < a ∨ b ≤ k → s k = k)
theorem Sw.refl (a b : Nat) (f : Nat → α) : Sw a b f f:=⟨id,id,fun _=>rfl,fun _=>rfl,fun _=>rfl,fun _ _=>rfl⟩
theorem Sw.trans {a b : Nat} {f g h : Nat → α} (h1 : Sw a b f g) (h2 : Sw a b g h) : Sw a b f h:=by
  obtain ⟨s,t,e,p,q,o⟩:=h1;obtain ⟨s',t',e',p',q',o'⟩:=h2;exact ⟨fun k=>s (s' k),fun k=>t' (t k),fun k=>by rw [e',e],fun k=>by dsimp only;rw [p,p'],fun k=>by dsimp only;rw [q',q],fun k hk=>by dsimp only;rw [o' k hk,o k hk]⟩
theorem Sw.wide {a b a' b' : Nat} {f g : Nat → α} (h : Sw a b f g) (ha : a' ≤ a) (hb : b ≤ b') : Sw a' b' f g:=by
  obtain ⟨s,t,e,p,q,o⟩:=h;exact ⟨s,t,e,p,q,fun k hk=>o k (by omega)⟩
theorem Sw.swp {a b : Nat} (f : Nat → α) {i j : Nat} (hi : a ≤ i) (hi' : i < b) (hj : a ≤ j) (hj' : j < b) : Sw a b f (swp f i j):=by
  have h : ∀ k,(fun k=>if k = i then j else if k = j then i else k) ((fun k=>if k = i then j else if k = j then i else k) k) = k:=by
    intro k;dsimp only;repeat' split
    all_goals omega
  refine ⟨fun k=>if k = i then j else if k = j then i else k,fun k=>if k = i then j else if k = j then i else k,fun k=>?_,h,h,fun k hk=>?_⟩
  · unfold Go.Proofs.YtgfpjjppeldhbaaGreatDoor.Stb.swp;dsimp only;repeat' split
    all_goals rfl
  · dsimp only;rw [if_neg (by omega),if_neg (by omega)]
theorem Sw.out {a b : Nat} {f g : Nat → α} (h : Sw a b f g) {k : Nat} (hk : k < a ∨ b ≤ k) : g k = f k:=by
  obtain ⟨s,t,e,p,q,o⟩:=h;rw [e,o k hk]
theorem Sw.at_ {a b : Nat} {f g : Nat → α} (h : Sw a b f g) {k : Nat} (h1 : a ≤ k) (h2 : k < b) : ∃ j,a ≤ j ∧ j < b ∧ g k = f j:=by
  obtain ⟨s,t,e,p,q,o⟩:=h;refine ⟨s k,Classical.byContradiction fun hn=>?_,Classical.byContradiction fun hn=>?_,e k⟩
  · have h3:=o (s k) (.inl (by omega));have h4 : s k = k:=by rw [← p (s k),h3,p]
    omega
  · have h3:=o (s k) (.inr (by omega));have h4 : s k = k:=by rw [← p (s k),h3,p]
    omega
theorem Sw.to_ {a b : Nat} {f g : Nat → α} (h : Sw a b f g) {k : Nat} (h1 : a ≤ k) (h2 : k < b) : ∃ j,a ≤ j ∧ j < b ∧ f k = g j:=by
  obtain ⟨s,t,e,p,q,o⟩:=h;have e2 : ∀ k,f k = g (t k):=fun k=>(by rw [e,q]);have o2 : ∀ k,k < a ∨ b ≤ k → t k = k:=fun k hk=>(by have h5:=p k;rwa [o k hk] at h5);refine ⟨t k,Classical.byContradiction fun hn=>?_,Classical.byContradiction fun hn=>?_,e2 k⟩
  · have h3:=o2 (t k) (.inl (by omega));have h4 : t k = k:=by rw [← q (t k),h3,q]
    omega
  · have h3:=o2 (t k) (.inr (by omega));have h4 : t k = k:=by rw [← q (t k),h3,q]
    omega
theorem Sw.inj {a b : Nat} {f g : Nat → α} (h : Sw a b f g) (hf : ∀ i j,i < b → j < b → f i = f j → i = j) : ∀ i j,i < b → j < b → g i = g j → i = j:=by
  intro i j hi hj he;obtain ⟨s,t,e,p,q,o⟩:=h;have hb : ∀ k,k < b → s k < b:=fun k hk=>Classical.byContradiction fun hn=>by
    have h3:=o (s k) (.inr (by omega));have h4 : s k = k:=by rw [← p (s k),h3,p]
    omega
  rw [e,e] at he;have:=hf _ _ (hb i hi) (hb j hj) he;rw [← p i,this,p]
def Srt (lt : α → α → Prop) (a b : Nat) (f : Nat → α) : Prop:=∀ i j,a ≤ i → i < j → j < b → ¬ lt (f j) (f i)
def rot (f : Nat → α) (a m b : Nat) : Nat → α:=fun k=>if a ≤ k ∧ k < a + (b - m) then f (k + (m - a)) else if a + (b - m) ≤ k ∧ k < b then f (k - (b - m)) else f k
def swr (f : Nat → α) (a b n : Nat) : Nat → α:=fun k=>if a ≤ k ∧ k < a + n then f (k - a + b) else if b ≤ k ∧ k < b + n then f (k - b + a) else f k
theorem swr_zero (f : Nat → α) (a b : Nat) : swr f a b 0 = f:=by
  funext k;unfold swr;rw [if_neg (by omega),if_neg (by omega)]
theorem swr_succ (f : Nat → α) (a b n : Nat) (h : a + n < b) : swp (swr f a b n) (a + n) (b + n) = swr f a b (n + 1):=by
  funext k;unfold swp swr
  by_cases h1 : k = a + n
  · rw [if_pos h1,if_neg (by omega),if_neg (by omega),if_pos (by omega)];congr 1;omega
  · rw [if_neg h1];by_cases h2 : k = b + n
    · rw [if_pos h2,if_neg (by omega),if_neg (by omega),if_neg (by omega),if_pos (by omega)];congr 1;omega
    · rw [if_neg h2];by_cases h3 : a ≤ k ∧ k < a + n
      · rw [if_pos h3,if_pos (by omega)]
      · rw [if_neg h3,if_neg (c:=a ≤ k ∧ k < a + (n + 1)) (by omega)];by_cases h4 : b ≤ k ∧ k < b + n
        · rw [if_pos h4,if_pos (by omega)]
        · rw [if_neg h4,if_neg (by omega)]
theorem rot_left (f : Nat → α) (m i j : Nat) (hi : i ≤ m) (hj : 0 < j) (h : j < i) : rot (swr f (m - i) m j) (m - (i - j)) m (m + j) = rot f (m - i) m (m + j):=by
  funext k;unfold rot swr
  by_cases h1 : m - i ≤ k ∧ k < m - i + (m + j - m)
  · rw [if_pos h1,if_neg (by omega),if_neg (by omega),if_pos (by omega)];congr 1;omega
  · rw [if_neg h1];by_cases h2 : m - i + (m + j - m) ≤ k ∧ k < m + j
    · rw [if_pos h2];by_cases h3 : m - (i - j) ≤ k ∧ k < m - (i - j) + (m + j - m)
      · rw [if_pos h3];rw [if_neg (by omega),if_pos (by omega)];congr 1;omega
      · rw [if_neg h3,if_pos (by omega),if_neg (by omega),if_neg (by omega)]
    · rw [if_neg h2,if_neg (by omega),if_neg (by omega),if_neg (by omega),if_neg (by omega)]
theorem rot_right (f : Nat → α) (m i j : Nat) (hi : i ≤ m) (hi0 : 0 < i) (h : i < j) : rot (swr f (m - i) (m + j - i) i) (m - i) m (m + (j - i)) = rot f (m - i) m (m + j):=by
  funext k;unfold rot swr
  by_cases h1 : m - i ≤ k ∧ k < m - i + (m + j - m)
  · rw [if_pos h1];by_cases h3 : m - i ≤ k ∧ k < m - i + (m + (j - i) - m)
    · rw [if_pos h3];rw [if_neg (by omega),if_neg (by omega)]
    · rw [if_neg h3];by_cases h4 : k < m + (j - i)
      · rw [if_pos (by omega),if_pos (by omega)];congr 1;omega
      · omega
  · rw [if_neg h1];by_cases h2 : m - i + (m + j - m) ≤ k ∧ k < m + j
    · rw [if_pos h2];rw [if_neg (by omega),if_neg (by omega),if_neg (by omega),if_pos (by omega)];congr 1;omega
    · rw [if_neg h2,if_neg (by omega),if_neg (by omega),if_neg (by omega),if_neg (by omega)]
theorem rot_even (f : Nat → α) (m i : Nat) (hi : i ≤ m) : swr f (m - i) m i = rot f (m - i) m (m + i):=by
  have e : m + i - m = i:=by omega
  have e2 : m - (m - i) = i:=by omega
  funext k;unfold rot swr;rw [e,e2]
  by_cases h1 : m - i ≤ k ∧ k < m - i + i
  · rw [if_pos h1,if_pos h1];congr 1;omega
  · rw [if_neg h1,if_neg h1];by_cases h2 : m ≤ k ∧ k < m + i
    · rw [if_pos h2,if_pos (by omega)];congr 1;omega
    · rw [if_neg h2,if_neg (by omega)]
theorem Sw.swr {a b lo hi n : Nat} (f : Nat → α) (h1 : lo ≤ a) (h2 : a + n ≤ b) (h3 : b + n ≤ hi) : Sw lo hi f (swr f a b n):=by
  induction n with
  | zero=>rw [swr_zero];exact Sw.refl _ _ _
  | succ n ih =>
    rw [← swr_succ f a b n (by omega)];exact (ih (by omega) (by omega)).trans (Sw.swp _ (by omega) (by omega) (by omega) (by omega))
section
variable {lt : α → α → Prop}
structure SOrd (lt : α → α → Prop) : Prop where
  irr : ∀ x,¬ lt x x
  tr : ∀ x y z,¬ lt y x → ¬ lt z y → ¬ lt z x
  asy : ∀ x y,lt x y → ¬ lt y x
theorem Srt.le {a b : Nat} {f : Nat → α} (O : SOrd lt) (h : Srt lt a b f) {i j : Nat} (h1 : a ≤ i) (h2 : i ≤ j) (h3 : j < b) : ¬ lt (f j) (f i):=by
  rcases Nat.lt_or_eq_of_le h2 with h4 | h4
  · exact h i j h1 h4 h3
  · subst h4;exact O.irr _
theorem Srt.sub {a b a' b' : Nat} {f : Nat → α} (h : Srt lt a b f) (h1 : a ≤ a') (h2 : b' ≤ b) : Srt lt a' b' f:=fun i j hi hj hb=>h i j (by omega) hj (by omega)
theorem Srt.congr {a b : Nat} {f g : Nat → α} (h : Srt lt a b f) (e : ∀ k,a ≤ k → k < b → g k = f k) : Srt lt a b g:=fun i j hi hj hb=>by rw [e i hi (by omega),e j (by omega) hb];exact h i j hi hj hb
theorem Srt.join {a m b : Nat} {f : Nat → α} (h1 : Srt lt a m f) (h2 : Srt lt m b f) (h : ∀ i j,a ≤ i → i < m → m ≤ j → j < b → ¬ lt (f j) (f i)) : Srt lt a b f:=fun i j hi hj hb=>by
  by_cases hm : j < m
  · exact h1 i j hi hj hm
  · by_cases hm2 : m ≤ i
    · exact h2 i j hm2 hj hb
    · exact h i j hi (by omega) (by omega) hb
theorem merge_rot {a m b mid start e : Nat} {f : Nat → α} (O : SOrd lt) (h1 : Srt lt a m f) (h2 : Srt lt m b f) (ha : a ≤ start) (hs : start ≤ m) (he : m ≤ e) (heb : e ≤ b) (hm : start + (e - m) = mid)
    (hlo : a < start → e < b → ¬ lt (f e) (f (start - 1))) (hhi : m < e → start < m → lt (f (e - 1)) (f start)) :
    Srt lt a start (rot f start m e) ∧ Srt lt start mid (rot f start m e) ∧ Srt lt mid e (rot f start m e) ∧ Srt lt e b (rot f start m e) ∧
    ∀ i j,a ≤ i → i < mid → mid ≤ j → j < b → ¬ lt (rot f start m e j) (rot f start m e i):=by
  have r1 : ∀ k,k < start → rot f start m e k = f k:=fun k hk=>(by unfold rot;rw [if_neg (by omega),if_neg (by omega)]);have r2 : ∀ k,start ≤ k → k < mid → rot f start m e k = f (k + (m - start)):=fun k h hk=>(by unfold rot;rw [if_pos (by omega)]);have r3 : ∀ k,mid ≤ k → k < e → rot f start m e k = f (k - (e - m)):=fun k h hk=>(by unfold rot;rw [if_neg (by omega),if_pos (by omega)]);have r4 : ∀ k,e ≤ k → rot f start m e k = f k:=fun k hk=>(by unfold rot;rw [if_neg (by omega),if_neg (by omega)]);refine ⟨?_,?_,?_,?_,?_⟩
  · intro i j hi hj hb;rw [r1 i (by omega),r1 j (by omega)];exact h1 i j hi hj (by omega)
  · intro i j hi hj hb;rw [r2 i (by omega) (by omega),r2 j (by omega) (by omega)];exact h2 _ _ (by omega) (by omega) (by omega)
  · intro i j hi hj hb;rw [r3 i (by omega) (by omega),r3 j (by omega) (by omega)];exact h1 _ _ (by omega) (by omega) (by omega)
  · intro i j hi hj hb;rw [r4 i (by omega),r4 j (by omega)];exact h2 _ _ (by omega) (by omega) (by omega)
  · intro i j hi hm1 hm2 hj;by_cases c1 : i < start
    · rw [r1 i c1];by_cases c2 : j < e
      · rw [r3 j hm2 c2];exact h1.le O hi (by omega) (by omega)
      · rw [r4 j (by omega)];have k1:=h1.le O hi (show i ≤ start - 1 by omega) (by omega);have k2:=hlo (by omega) (by omega);have k3:=h2.le O he (show e ≤ j by omega) hj;exact O.tr _ _ _ (O.tr _ _ _ k1 k2) k3
    · rw [r2 i (by omega) hm1];by_cases c2 : j < e
      · rw [r3 j hm2 c2];have k1:=h2.le O (show m ≤ i + (m - start) by omega) (show i + (m - start) ≤ e - 1 by omega) (by omega);have k2:=O.asy _ _ (hhi (by omega) (by omega));have k3:=h1.le O ha (show start ≤ j - (e - m) by omega) (by omega);exact O.tr _ _ _ (O.tr _ _ _ k1 k2) k3
      · rw [r4 j (by omega)];exact h2.le O (by omega) (by omega) hj
theorem merge_done {a mid b : Nat} {g g1 g2 : Nat → α} (h1 : Sw a mid g g1) (h2 : Sw mid b g1 g2) (s1 : Srt lt a mid g1) (s2 : Srt lt mid b g2) (hx : ∀ i j,a ≤ i → i < mid → mid ≤ j → j < b → ¬ lt (g j) (g i)) : Srt lt a b g2:=by
  refine Srt.join (s1.congr fun k _ hk=>h2.out (.inl hk)) s2 fun i j hi hm1 hm2 hj=>?_;rw [h2.out (.inl hm1)];obtain ⟨i',i1,i2,e1⟩:=h1.at_ hi hm1;obtain ⟨j',j1,j2,e2⟩:=h2.at_ hm2 hj;rw [e1,e2,h1.out (.inr j1)];exact hx i' j' i1 i2 j1 j2
theorem rot_self (f : Nat → α) (i : Nat) : rot f i i (i + 1) = f:=by
  funext k;unfold rot
  by_cases h1 : i ≤ k ∧ k < i + (i + 1 - i)
  · rw [if_pos h1];congr 1;omega
  · rw [if_neg h1,if_neg (by omega)]
theorem rot_one (f : Nat → α) (a : Nat) : rot f a (a + 1) (a + 1) = f:=by
  funext k;unfold rot
  rw [if_neg (by omega)];by_cases h1 : a + (a + 1 - (a + 1)) ≤ k ∧ k < a + 1
  · rw [if_pos h1];congr 1;omega
  · rw [if_neg h1]
theorem rot_emptyL (f : Nat → α) (m e : Nat) : rot f m m e = f:=by
  funext k;unfold rot
  by_cases h1 : m ≤ k ∧ k < m + (e - m)
  · rw [if_pos h1];congr 1;omega
  · rw [if_neg h1,if_neg (by omega)]
theorem rot_emptyR (f : Nat → α) (s m : Nat) : rot f s m m = f:=by
  funext k;unfold rot
  rw [if_neg (by omega)];by_cases h1 : s + (m - m) ≤ k ∧ k < m
  · rw [if_pos h1];congr 1;omega
  · rw [if_neg h1]
theorem down_at (f : Nat → α) (j i : Nat) (h : j ≤ i) : rot f j i (i + 1) j = f i:=by
  unfold rot;rw [if_pos (by omega)];congr 1;omega
theorem down_below (f : Nat → α) (j i k : Nat) (h : k < j) : rot f j i (i + 1) k = f k:=by
  unfold rot;rw [if_neg (by omega),if_neg (by omega)]
theorem down_in (f : Nat → α) (j i k : Nat) (h : j < k) (hk : k ≤ i) : rot f j i (i + 1) k = f (k - 1):=by
  unfold rot;rw [if_neg (by omega),if_pos (by omega)];congr 1;omega
theorem down_above (f : Nat → α) (j i k : Nat) (h : i < k) (hj : j ≤ i) : rot f j i (i + 1) k = f k:=by
  unfold rot;rw [if_neg (by omega),if_neg (by omega)]
theorem down_step (f : Nat → α) (j i : Nat) (h : j < i) : swp (rot f (j + 1) i (i + 1)) (j + 1) j = rot f j i (i + 1):=by
  funext k;unfold swp
  by_cases h1 : k = j + 1
  · rw [if_pos h1,h1,down_below f _ _ _ (by omega),down_in f j i _ (by omega) (by omega)];rfl
  · rw [if_neg h1];by_cases h2 : k = j
    · rw [if_pos h2,h2,down_at f _ _ (by omega),down_at f _ _ (by omega)]
    · rw [if_neg h2];by_cases h3 : k < j
      · rw [down_below f _ _ _ (by omega),down_below f _ _ _ h3]
      · by_cases h4 : k ≤ i
        · rw [down_in f _ _ _ (by omega) h4,down_in f _ _ _ (by omega) h4]
        · rw [down_above f _ _ _ (by omega) (by omega),down_above f _ _ _ (by omega) (by omega)]
theorem down_srt {a i j : Nat} {f : Nat → α} (O : SOrd lt) (h : Srt lt a i f) (ha : a ≤ j) (hj : j ≤ i) (h1 : j < i → lt (f i) (f j)) (h2 : a < j → ¬ lt (f i) (f (j - 1))) : Srt lt a (i + 1) (rot f j i (i + 1)):=by
  intro x y hx hxy hy;by_cases c1 : x < j
  · rw [down_below f _ _ _ c1];have k1:=h.le O hx (show x ≤ j - 1 by omega) (by omega);by_cases c2 : y < j
    · rw [down_below f _ _ _ c2];exact h x y hx hxy (by omega)
    · by_cases c3 : y = j
      · rw [c3,down_at f _ _ hj];exact O.tr _ _ _ k1 (h2 (by omega))
      · rw [down_in f _ _ _ (by omega) (by omega)];exact h.le O hx (by omega) (by omega)
  · by_cases c2 : x = j
    · rw [c2,down_at f _ _ hj,down_in f _ _ _ (by omega) (by omega)];exact O.tr _ _ _ (O.asy _ _ (h1 (by omega))) (h.le O ha (by omega) (by omega))
    · rw [down_in f _ _ x (by omega) (by omega),down_in f _ _ y (by omega) (by omega)];exact h.le O (by omega) (by omega) (by omega)
theorem up_at (f : Nat → α) (a i : Nat) (h : a < i) : rot f a (a + 1) i (i - 1) = f a:=by
  unfold rot;rw [if_neg (by omega),if_pos (by omega)];congr 1;omega
theorem up_in (f : Nat → α) (a i k : Nat) (h : a ≤ k) (hk : k + 1 < i) : rot f a (a + 1) i k = f (k + 1):=by
  unfold rot;rw [if_pos (by omega)];congr 1;omega
theorem up_out (f : Nat → α) (a i k : Nat) (hi : a < i) (h : k < a ∨ i ≤ k) : rot f a (a + 1) i k = f k:=by
  unfold rot;rw [if_neg (by omega),if_neg (by omega)]
theorem up_step (f : Nat → α) (a k : Nat) (h : a ≤ k) : swp (rot f a (a + 1) (k + 1)) k (k + 1) = rot f a (a + 1) (k + 2):=by
  funext x;unfold swp
  by_cases h1 : x = k
  · rw [if_pos h1,h1,up_out f _ _ _ (by omega) (by omega),up_in f _ _ _ h (by omega)]
  · rw [if_neg h1];by_cases h2 : x = k + 1
    · rw [if_pos h2,h2];have e:=up_at f a (k + 1) (by omega);have e2:=up_at f a (k + 2) (by omega);rw [show k + 1 - 1 = k from rfl] at e;rw [show k + 2 - 1 = k + 1 from rfl] at e2;rw [e,e2]
    · rw [if_neg h2];by_cases h3 : a ≤ x ∧ x < k
      · rw [up_in f _ _ _ h3.1 (by omega),up_in f _ _ _ h3.1 (by omega)]
      · rw [up_out f _ _ _ (by omega) (by omega),up_out f _ _ _ (by omega) (by omega)]
theorem up_srt {a i b : Nat} {f : Nat → α} (O : SOrd lt) (h : Srt lt (a + 1) b f) (hi : a + 1 ≤ i) (hb : i ≤ b) (h1 : a + 1 < i → lt (f (i - 1)) (f a)) (h2 : i < b → ¬ lt (f i) (f a)) : Srt lt a b (rot f a (a + 1) i):=by
  intro x y hx hxy hy;by_cases c1 : x + 1 < i
  · rw [up_in f _ _ _ hx c1];have k1:=h.le O (show a + 1 ≤ x + 1 by omega) (show x + 1 ≤ i - 1 by omega) (by omega);by_cases c2 : y + 1 < i
    · rw [up_in f _ _ _ (by omega) c2];exact h.le O (by omega) (by omega) (by omega)
    · by_cases c3 : y = i - 1
      · rw [c3,up_at f _ _ (by omega)];exact O.tr _ _ _ k1 (O.asy _ _ (h1 (by omega)))
      · rw [up_out f _ _ _ (by omega) (by omega)];exact h.le O (by omega) (by omega) (by omega)
  · by_cases c2 : x = i - 1
    · rw [c2,up_at f _ _ (by omega),up_out f _ _ _ (by omega) (by omega)];exact O.tr _ _ _ (h2 (by omega)) (h.le O (by omega) (by omega) (by omega))
    · rw [up_out f _ _ x (by omega) (by omega),up_out f _ _ y (by omega) (by omega)];exact h.le O (by omega) (by omega) (by omega)
theorem Sw.rot {lo hi a m b : Nat} (f : Nat → α) (h1 : lo ≤ a) (h2 : b ≤ hi) (ha : a ≤ m) (hm : m ≤ b) : Sw lo hi f (rot f a m b):=by
  by_cases e1 : a = m
  · subst e1;rw [rot_emptyL];exact Sw.refl _ _ _
  by_cases e2 : m = b
  · subst e2;rw [rot_emptyR];exact Sw.refl _ _ _
  have main : ∀ n f m i j,i + j = n → 0 < i → 0 < j → i ≤ m → lo ≤ m - i → m + j ≤ hi → Sw lo hi f (Go.Proofs.YtgfpjjppeldhbaaGreatDoor.Stb.rot (α:=α) f (m - i) m (m + j)):=by
    intro n;induction n using Nat.strongRecOn with
    | _ n ih =>
      intro f m i j hn hi hj hm hl hh;rcases Nat.lt_trichotomy i j with h | h | h
      · rw [← rot_right f m i j hm hi h];exact (Sw.swr f (by omega) (by omega) (by omega)).trans (ih (i + (j - i)) (by omega) _ m i (j - i) rfl hi (by omega) hm hl (by omega))
      · subst h;rw [← rot_even f m i hm];exact Sw.swr f (by omega) (by omega) (by omega)
      · rw [← rot_left f m i j hm hj h];exact (Sw.swr f (by omega) (by omega) (by omega)).trans (ih (i - j + j) (by omega) _ m (i - j) j rfl (by omega) hj (by omega) (by omega) hh)
  have h:=main _ f m (m - a) (b - m) rfl (by omega) (by omega) (by omega) (by omega) (by omega);rw [show m - (m - a) = a by omega,show m + (b - m) = b by omega] at h;exact h
end
end Stb
namespace LC
open Go.RowKit Go.Proofs.YtgfpjjppeldhbaaGreatDoor
def chainOp (cv : Op → Bool) (o : Oper) : Bool :=
  match o.op with
  | .call c=>(match c.callee with | .builtin .len=>false | .builtin .cap=>false | _=>true)
  | .alloc _ | .box _ _ | .buildSlice _ _ _ | .store _ _ _ | .insert _ _ _ _ | .mapUpdate _ _ _ _ | .mapEntry _ _ _ | .entryStore _ _ _ _ | .makeMap _ _ | .makeChan _ _ | .makeSlice _ _ _ | .range _ _ | .next _ _=>true
  | op=>cv op
def chainAt (cv : Op → Bool) (ops : Array Oper) (i : Nat) : Bool:=((ops[i]?).map (chainOp cv)).getD false
def waitsB (md : Region.Mode) (ops : Array Oper) (j p : Nat) : Bool :=
  match ops[j]? with
  | some oj=>oj.after.any fun e=>Region.binds md e && e.on == p
  | none=>false
def chainB (md : Region.Mode) (cv : Op → Bool) (ops : Array Oper) : Bool :=
  (List.range ops.size).all fun j=>!chainAt cv ops j || (match (List.range j).reverse.find? (chainAt cv ops) with | some p=>waitsB md ops j p | none=>true)
section
variable {P : Program} {ops : Array Oper} {md : Region.Mode} {S : World → Prop} {cv : Op → Bool} {fb : Bool}
def looseRes (w : World) (v : Value) : Result Next → Prop
  | .ok (.value u) w'=>w' = w ∧ u = v
  | .ok .skip w'=>w' = w ∧ v = undef
  | _=>False
def chainRes (P : Program) (S : World → Prop) (K : Value → World → Prop) : Result Next → Prop
  | .ok (.value u) w'=>S w' ∧ K u w'
  | .ok .skip w'=>S w' ∧ K undef w'
  | .ok (.enter f args) w'=>Calls P f args w' (fun e w''=>∃ v,e = .returned v ∧ S w'' ∧ K v w'')
  | _=>False
theorem chainRes_mono {K K' : Value → World → Prop} {r : Result Next} (hk : ∀ v w,S w → K v w → K' v w) (h : chainRes P S K r) : chainRes P S K' r:=by
  cases r with
  | ok n w' =>
    cases n <;> simp only [chainRes] at h ⊢
    case value u=>exact ⟨h.1,hk _ _ h.1 h.2⟩
    case skip=>exact ⟨h.1,hk _ _ h.1 h.2⟩
    case enter f args=>exact h.mono fun e w'' ⟨v,he,hs,h2⟩=>⟨v,he,hs,hk _ _ hs h2⟩
  | halt x w'=>exact h.elim
theorem chainRes_weaken {S' : World → Prop} {K K' : Value → World → Prop} {r : Result Next} (hs : ∀ w,S w → S' w) (hk : ∀ v w,S w → K v w → K' v w) (h : chainRes P S K r) : chainRes P S' K' r:=by
  cases r with
  | ok n w' =>
    cases n <;> simp only [chainRes] at h ⊢
    case value u=>exact ⟨hs _ h.1,hk _ _ h.1 h.2⟩
    case skip=>exact ⟨hs _ h.1,hk _ _ h.1 h.2⟩
    case enter f args=>exact h.mono fun e w'' ⟨v,he,hs',h2⟩=>⟨v,he,hs _ hs',hk _ _ hs' h2⟩
  | halt x w'=>exact h.elim
def cls (ops : Array Oper) (S : World → Prop) (fb : Bool) (i : Nat) : World → Prop:=fun w=>S w ∨ (fb = true ∧ i + 1 = ops.size)
def endB (md : Region.Mode) (ops : Array Oper) : Bool:=decide (0 < ops.size) && Region.sinkB md ops (ops.size - 1)
def lxOp (P : Program) (ops : Array Oper) (S : World → Prop) (cv : Op → Bool) (fb : Bool) (i : Nat) (K : Act → World → Prop) (a : Act) (w : World) : Prop :=
  match ops[i]? with
  | none=>K a w
  | some o =>
    if Region.wanted o (yielded ops a.tmps) then
      (if chainOp cv o then chainRes P (cls ops S fb i) (fun v w'=>K (a.put o.dst v) w') ((execOp a.eval o).run P w)
       else ∃ v,(∀ w',S w' → looseRes w' v ((execOp a.eval o).run P w')) ∧ K (a.put o.dst v) w)
    else K (a.put o.dst undef) w
theorem lxOp_mono {i : Nat} {a : Act} {w : World} {K K' : Act → World → Prop} (hS : S w) (h : ∀ a w,cls ops S fb i w → K a w → K' a w) (hh : lxOp P ops S cv fb i K a w) : lxOp P ops S cv fb i K' a w:=by
  have hSi : cls ops S fb i w:=.inl hS;unfold lxOp at *;split
  · exact h _ _ hSi (by simpa [*] using hh)
  · rename_i o ho
    simp only [ho] at hh;split
    · rename_i hw
      rw [if_pos hw] at hh;split
      · rename_i hc;rw [if_pos hc] at hh;exact chainRes_mono (fun v w hs hk=>h _ _ hs hk) hh
      · rename_i hc;rw [if_neg hc] at hh;obtain ⟨v,h1,h2⟩:=hh;exact ⟨v,h1,h _ _ hSi h2⟩
    · rename_i hw;rw [if_neg hw] at hh;exact h _ _ hSi hh
def wpAnyX (P : Program) (md : Region.Mode) (ops : Array Oper) (S : World → Prop) (cv : Op → Bool) (fb : Bool) (Q : Act → World → Prop) : Nat → Array Bool → Act → World → Prop
  | 0,listed,a,w=>Region.ready md ops listed = [] ∧ Q a w
  | fuel + 1,listed,a,w =>
    (Region.ready md ops listed = [] → Q a w) ∧
    ∀ i ∈ Region.ready md ops listed,lxOp P ops S cv fb i (wpAnyX P md ops S cv fb Q fuel (listed.setIfInBounds i true)) a w
theorem wpOp_of_lxOp {Q' : Exit → Act → World → Prop} {i : Nat} {a : Act} {w : World} {K K' : Act → World → Prop} (hS : S w) (h : ∀ a w,cls ops S fb i w → K a w → K' a w) (hh : lxOp P ops S cv fb i K a w) : wpOp P ops Q' i K' a w:=by
  have hSi : cls ops S fb i w:=.inl hS;unfold lxOp at hh;unfold wpOp;split
  · rename_i ho;simp only [ho] at hh;exact h _ _ hSi hh
  · rename_i o ho
    simp only [ho] at hh;split
    · rename_i hw
      rw [if_pos hw] at hh;refine .inl ?_;unfold Oper.wp;split at hh
      · generalize (execOp a.eval o).run P w = r at *;cases r with
        | ok n w' =>
          cases n <;> simp only [chainRes] at hh <;> simp only [Oper.upon]
          case value u=>exact h _ _ hh.1 hh.2
          case skip=>exact h _ _ hh.1 hh.2
          case enter f args=>exact hh.mono fun e w'' ⟨v,he,hs,hk⟩=>by subst he;exact h _ _ hs hk
        | halt x w'=>exact hh.elim
      · obtain ⟨v,h1,h2⟩:=hh;have h3:=h1 w hS;generalize (execOp a.eval o).run P w = r at *;cases r with
        | ok n w' =>
          cases n <;> simp only [looseRes] at h3 <;> simp only [Oper.upon]
          case value u=>obtain ⟨e1,e2⟩:=h3;rw [e1,e2];exact h _ _ hSi h2
          case skip=>obtain ⟨e1,e2⟩:=h3;rw [e1,← e2];exact h _ _ hSi h2
        | halt x w'=>exact h3.elim
    · rename_i hw;rw [if_neg hw] at hh;exact h _ _ hSi hh
structure EndInv (md : Region.Mode) (ops : Array Oper) (fb : Bool) (listed : Array Bool) : Prop where
  inv : fb = true → endB md ops = true ∧ (HeadInv md ops (ops.size - 1) listed ∨ Region.ready md ops listed = [])
theorem EndInv.end_ {listed : Array Bool} (h : EndInv md ops fb listed) (hfb : fb = true) {i : Nat} (hi : i ∈ Region.ready md ops listed) (he : i + 1 = ops.size) : ∀ j ∈ Region.ready md ops listed,j = i:=by
  obtain ⟨hB,h1⟩:=h.inv hfb;rcases h1 with h1 | h1
  · intro j hj;simp only [endB,Bool.and_eq_true,decide_eq_true_eq] at hB;obtain ⟨hjun,oj,hoj,_⟩:=mem_ready.1 hj;have hjs : j < ops.size:=(Array.getElem?_eq_some_iff.1 hoj).1;rcases Nat.lt_or_ge j i with hlt | hge
    · exfalso
      have hch : Region.chainB md ops (ops.size - 1) = true:=by
        unfold Region.chainB;rw [List.all_eq_true];intro t ht;have:=List.mem_range.1 ht
        simp;left;omega
      exact tail_waits hB.2 hch (by omega) h1 (ops.size - 1 - j) j rfl (by omega) hjun i (by omega) hi
    · omega
  · rw [h1] at hi;cases hi
theorem EndInv.set {listed : Array Bool} (h : EndInv md ops fb listed) {i : Nat} (hi : i ∈ Region.ready md ops listed) : EndInv md ops fb (listed.setIfInBounds i true):=by
  refine ⟨fun hfb=>?_⟩;obtain ⟨hB,h1⟩:=h.inv hfb;refine ⟨hB,?_⟩;rcases h1 with h1 | h1
  · by_cases he : i + 1 = ops.size
    · right
      have hall:=h.end_ hfb hi he;apply List.eq_nil_iff_forall_not_mem.2;intro j hj;obtain ⟨hjun,oj,hoj,hallj⟩:=mem_ready.1 hj;have hjs : j < ops.size:=(Array.getElem?_eq_some_iff.1 hoj).1;have hji : j ≠ i:=by
        rintro rfl;have hsz : j < listed.size:=by rw [h1.size];exact hjs
        simp [hsz] at hjun
      simp only [endB,Bool.and_eq_true,decide_eq_true_eq] at hB;have hch : Region.chainB md ops (ops.size - 1) = true:=by
        unfold Region.chainB;rw [List.all_eq_true];intro t ht;have:=List.mem_range.1 ht
        simp;left;omega
      rw [getD_set_ne true (Ne.symm hji)] at hjun;exact tail_waits hB.2 hch (by omega) h1 (ops.size - 1 - j) j rfl (by omega) hjun i (by omega) hi
    · left
      obtain ⟨_,oi,hoi,_⟩:=mem_ready.1 hi;have his : i < ops.size:=(Array.getElem?_eq_some_iff.1 hoi).1;exact h1.set hi (by omega)
  · rw [h1] at hi;cases hi
theorem EndInv.cls {listed : Array Bool} {w : World} (h : EndInv md ops fb listed) {i j : Nat} (hi : i ∈ Region.ready md ops listed) (hj : j ∈ Region.ready md ops listed) (hji : j ≠ i) (hc : cls ops S fb j w) : S w:=by
  rcases hc with hc | ⟨hfb,he⟩
  · exact hc
  · exact absurd (h.end_ hfb hj he i hi).symm hji
theorem wpAny_of_X {Q : Act → World → Prop} {Q' : Exit → Act → World → Prop} (hQ : ∀ a w,(S w ∨ fb = true) → Q a w → Q' .normal a w) : ∀ (fuel : Nat) (listed : Array Bool) (a : Act) (w : World),EndInv md ops fb listed → (S w ∨ (fb = true ∧ Region.ready md ops listed = [])) →
    wpAnyX P md ops S cv fb Q fuel listed a w → wpAny P md ops Q' fuel listed a w
  | 0,_,_,_,_,hS,h=>⟨h.1,hQ _ _ (hS.imp id (·.1)) h.2⟩
  | fuel + 1,listed,_,_,hI,hS,h=>⟨fun h0=>hQ _ _ (hS.imp id (·.1)) (h.1 h0),fun i hi=>by
      rcases hS with hS | ⟨_,h0⟩
      · refine wpOp_of_lxOp hS (fun a' w' hS'=>wpAny_of_X hQ fuel _ a' w' (hI.set hi) ?_) (h.2 i hi);rcases hS' with hS' | ⟨hfb,he⟩
        · exact .inl hS'
        · right
          refine ⟨hfb,?_⟩;rcases ((hI.set hi).inv hfb).2 with h1 | h1
          · exfalso
            have:=h1.tail i (by omega) (by omega);have hsz : i < (listed.setIfInBounds i true).size:=by rw [h1.size];omega
            have hsz' : i < listed.size:=by simpa using hsz
            simp [hsz'] at this
          · exact h1
      · rw [h0] at hi;cases hi⟩
def YieldsX (P : Program) (ops : Array Oper) (S : World → Prop) (cv : Op → Bool) (o : Oper) (v : Value) (a : Act) : Prop :=
  (Region.wanted o (yielded ops a.tmps) = true ∧ chainOp cv o = false ∧ ∀ w,S w → looseRes w v ((execOp a.eval o).run P w)) ∨
  (Region.wanted o (yielded ops a.tmps) = false ∧ v = undef)
theorem YieldsX.lxOp {i : Nat} {o : Oper} {v : Value} {a : Act} {w : World} (hi : ops[i]? = some o) (hy : YieldsX P ops S cv o v a) {K : Act → World → Prop} (h : K (a.put o.dst v) w) : lxOp P ops S cv fb i K a w:=by
  unfold Proofs.YtgfpjjppeldhbaaGreatDoor.LC.lxOp;simp only [hi];rcases hy with ⟨hw,hc,hv⟩ | ⟨hw,rfl⟩
  · rw [if_pos hw,hc];exact ⟨v,hv,h⟩
  · rw [if_neg (by rw [hw];simp)];exact h
theorem YieldsX.of_same {o : Oper} {v : Value} {a a' : Act} (hy : YieldsX P ops S cv o v a) (he : execOp a'.eval o = execOp a.eval o)
    (hw : Region.wanted o (yielded ops a'.tmps) = Region.wanted o (yielded ops a.tmps)) : YieldsX P ops S cv o v a':=by
  unfold YieldsX at *;rw [he,hw];exact hy
theorem lxOp_put {j : Nat} {oi oj : Oper} {v : Value} (hj : ops[j]? = some oj) (hap : oi.apart ops oj = true)
    (hsi : ∀ cs b,oi.op ≠ .select cs b) (hsj : ∀ cs b,oj.op ≠ .select cs b) {K : Act → World → Prop} {a : Act} {w : World}
    (hy : YieldsX P ops S cv oi v a) (h : lxOp P ops S cv fb j K (a.put oi.dst v) w) :
    lxOp P ops S cv fb j (fun a' w'=>YieldsX P ops S cv oi v a' ∧ K (a'.put oi.dst v) w') a w:=by
  obtain ⟨h1,h2,h3⟩:=Oper.apart_spec hap;have keep : ∀ (a : Act),YieldsX P ops S cv oi v a → ∀ u,YieldsX P ops S cv oi v (a.put oj.dst u):=fun a hy u =>
    hy.of_same (execOp_put oi hsi a oj.dst u h3) (wanted_put oi a oj.dst u h3)
  unfold lxOp at *;simp only [hj] at *;rw [wanted_put oj a oi.dst v h1,execOp_put oj hsj a oi.dst v h1] at h;split
  · rename_i hw
    rw [if_pos hw] at h;split
    · rename_i hc
      rw [if_pos hc] at h;exact chainRes_mono (fun u w' _ hk=>⟨keep a hy u,by rw [← Act.put_comm a v u h2];exact hk⟩) h
    · rename_i hc
      rw [if_neg hc] at h;obtain ⟨u,hu,hk⟩:=h;exact ⟨u,hu,keep a hy u,by rw [← Act.put_comm a v u h2];exact hk⟩
  · rename_i hw
    rw [if_neg hw] at h;exact ⟨keep a hy _,by rw [← Act.put_comm a v undef h2];exact h⟩
theorem X_first_loose {Q : Act → World → Prop} {i : Nat} {oi : Oper} {v : Value} (hi : ops[i]? = some oi) (hsel : ∀ (j : Nat) (o : Oper) cs b,ops[j]? = some o → o.op ≠ .select cs b) :
    ∀ (fuel : Nat) (listed : Array Bool) (a : Act) (w : World),EndInv md ops fb listed → S w →
      (∀ j oj,ops[j]? = some oj → j ≠ i → listed.getD j true = false → (∀ e ∈ oj.after,Region.binds md e = true → e.on ≠ i) → oi.apart ops oj = true) →
      i ∈ Region.ready md ops listed → YieldsX P ops S cv oi v a →
      wpAnyX P md ops S cv fb Q fuel (listed.setIfInBounds i true) (a.put oi.dst v) w → wpAnyX P md ops S cv fb Q (fuel + 1) listed a w:=by
  intro fuel;induction fuel with
  | zero =>
    intro listed a w _ _ _ hr hy H;refine ⟨fun h=>(by rw [h] at hr;cases hr),fun j hj=>?_⟩;by_cases hji : j = i
    · subst hji;exact hy.lxOp hi H
    · have:=ready_mono hj hji;rw [H.1] at this;cases this
  | succ fuel ih =>
    intro listed a w hI hS hfree hr hy H;refine ⟨fun h=>(by rw [h] at hr;cases hr),fun j hj=>?_⟩;by_cases hji : j = i
    · subst hji;exact hy.lxOp hi H
    · have h1:=H.2 j (ready_mono hj hji);obtain ⟨hjun,oj,hoj,hall⟩:=mem_ready.1 hj;have hnot : ∀ e ∈ oj.after,Region.binds md e = true → e.on ≠ i:=fun e he hb heq=>by
        have h1:=hall e he hb;have h0:=(mem_ready.1 hr).1;rw [heq] at h1;rcases Nat.lt_or_ge i listed.size with h' | h'
        · simp [h'] at h0 h1;rw [h0] at h1;cases h1
        · simp [Array.getElem?_eq_none h'] at h1
      have h2:=lxOp_put hoj (hfree j oj hoj hji hjun hnot) (fun cs b=>hsel i oi cs b hi) (fun cs b=>hsel j oj cs b hoj) hy h1;have hfree' : ∀ k ok,ops[k]? = some ok → k ≠ i → (listed.setIfInBounds j true).getD k true = false →
          (∀ e ∈ ok.after,Region.binds md e = true → e.on ≠ i) → oi.apart ops ok = true:=fun k ok hk hki hun hno=>by
        refine hfree k ok hk hki ?_ hno;by_cases hjk : j = k
        · subst hjk;exact hjun
        · rw [getD_set_ne true hjk] at hun;exact hun
      refine lxOp_mono hS (fun a' w' hS' h3=>ih (listed.setIfInBounds j true) a' w' (hI.set hj) (hI.cls hr hj hji hS') hfree' (ready_mono hr (Ne.symm hji)) h3.1 ?_) h2;rw [Array.setIfInBounds_comm _ _ hji];exact h3.2
end
section
variable (P : Program) (S : World → Prop) (w w' : World) (v u : Value) (K : Value → World → Prop) (f : FuncId) (args : Array Value)
@[go_sem] theorem looseRes_value : LC.looseRes w v (.ok (.value u) w') = (w' = w ∧ u = v):=rfl
@[go_sem] theorem looseRes_skip : LC.looseRes w v (.ok .skip w') = (w' = w ∧ v = undef):=rfl
@[go_sem] theorem chainRes_value : LC.chainRes P S K (.ok (.value u) w') = (S w' ∧ K u w'):=rfl
@[go_sem] theorem chainRes_skip : LC.chainRes P S K (.ok .skip w') = (S w' ∧ K undef w'):=rfl
@[go_sem] theorem chainRes_enter : LC.chainRes P S K (.ok (.enter f args) w') = Calls P f args w' (fun e w''=>∃ v,e = .returned v ∧ S w'' ∧ K v w''):=rfl
end
def nthL {α : Type} : List α → Nat → Option α
  | [],_=>none
  | x :: _,0=>some x
  | _ :: l,i + 1=>nthL l i
theorem nthL_eq {α : Type} : ∀ (l : List α) (i : Nat),nthL l i = l[i]?
  | [],_=>rfl
  | _ :: _,0=>rfl
  | _ :: l,i + 1=>by simpa [nthL] using nthL_eq l i
theorem nthL_ops {ops : Array Oper} {i : Nat} {o : Oper} (h : nthL ops.toList i = some o) : ops[i]? = some o:=by
  rw [nthL_eq] at h;simpa using h
inductive Sched where
  | done : Sched
  | loose (i : Nat) (n : Sched) : Sched
  | one (i : Nat) (n : Sched) : Sched
  | two (i : Nat) (n : Sched) (j : Nat) (m : Sched) : Sched
  | three (i : Nat) (n : Sched) (j : Nat) (m : Sched) (k : Nat) (l : Sched) : Sched
def Sched.depth : Sched → Nat
  | .done=>0
  | .loose _ n=>n.depth + 1
  | .one _ n=>n.depth + 1
  | .two _ n _ m=>max n.depth m.depth + 1
  | .three _ n _ m _ l=>max (max n.depth m.depth) l.depth + 1
def Sched.ok (md : Region.Mode) (ops : Array Oper) : Sched → Array Bool → Bool
  | .done,listed=>(Region.ready md ops listed).isEmpty
  | .loose i n,listed=>(Region.ready md ops listed).contains i && Region.free md ops listed i && n.ok md ops (listed.setIfInBounds i true)
  | .one i n,listed=>(Region.ready md ops listed == [i]) && n.ok md ops (listed.setIfInBounds i true)
  | .two i n j m,listed=>(Region.ready md ops listed == [i,j]) && n.ok md ops (listed.setIfInBounds i true) && m.ok md ops (listed.setIfInBounds j true)
  | .three i n j m k l,listed=>(Region.ready md ops listed == [i,j,k]) && n.ok md ops (listed.setIfInBounds i true) && m.ok md ops (listed.setIfInBounds j true) && l.ok md ops (listed.setIfInBounds k true)
def mkSched (md : Region.Mode) (cv : Op → Bool) (ops : Array Oper) (skip : List Nat) : Nat → Array Bool → Sched
  | 0,_=>.done
  | f + 1,listed =>
    match (Region.ready md ops listed).find? (fun i=>(!chainAt cv ops i || skip.contains i) && Region.free md ops listed i) with
    | some i=>.loose i (mkSched md cv ops skip f (listed.setIfInBounds i true))
    | none =>
      match Region.ready md ops listed with
      | [i]=>.one i (mkSched md cv ops skip f (listed.setIfInBounds i true))
      | [i,j]=>.two i (mkSched md cv ops skip f (listed.setIfInBounds i true)) j (mkSched md cv ops skip f (listed.setIfInBounds j true))
      | [i,j,k]=>.three i (mkSched md cv ops skip f (listed.setIfInBounds i true)) j (mkSched md cv ops skip f (listed.setIfInBounds j true)) k (mkSched md cv ops skip f (listed.setIfInBounds k true))
      | _=>.done
section
variable {P : Program} {ops : Array Oper} {md : Region.Mode} {S : World → Prop} {cv : Op → Bool} {fb : Bool}
def stepT (P : Program) (ops : Array Oper) (S : World → Prop) (cv : Op → Bool) (fb : Bool) (i : Nat) (K : Act → World → Prop) (a : Act) (w : World) : Prop :=
  match ops[i]? with
  | none=>False
  | some o=>if Region.wanted o (yielded ops a.tmps) then chainOp cv o = true ∧ chainRes P (cls ops S fb i) (fun v w'=>K (a.put o.dst v) w') ((execOp a.eval o).run P w) else K (a.put o.dst undef) w
def wpT0 (P : Program) (ops : Array Oper) (S : World → Prop) (cv : Op → Bool) (fb : Bool) (Q : Act → World → Prop) : Sched → Act → World → Prop
  | .done,a,w=>Q a w
  | .loose i n,a,w =>
    match ops[i]? with
    | none=>False
    | some o=>if Region.wanted o (yielded ops a.tmps) then chainOp cv o = false ∧ ∃ v,(∀ w',S w' → looseRes w' v ((execOp a.eval o).run P w')) ∧ wpT0 P ops S cv fb Q n (a.put o.dst v) w else wpT0 P ops S cv fb Q n (a.put o.dst undef) w
  | .one i n,a,w=>stepT P ops S cv fb i (wpT0 P ops S cv fb Q n) a w
  | .two i n j m,a,w=>stepT P ops S cv fb i (wpT0 P ops S cv fb Q n) a w ∧ stepT P ops S cv fb j (wpT0 P ops S cv fb Q m) a w
  | .three i n j m k l,a,w=>stepT P ops S cv fb i (wpT0 P ops S cv fb Q n) a w ∧ stepT P ops S cv fb j (wpT0 P ops S cv fb Q m) a w ∧ stepT P ops S cv fb k (wpT0 P ops S cv fb Q l) a w
theorem stepT_lx {i : Nat} {K K' : Act → World → Prop} {a : Act} {w : World} (hS : S w) (hk : ∀ a w,cls ops S fb i w → K a w → K' a w) (h : stepT P ops S cv fb i K a w) : lxOp P ops S cv fb i K' a w:=by
  unfold LC.stepT at h;unfold LC.lxOp;cases ho : ops[i]? with
  | none=>rw [ho] at h;exact h.elim
  | some o =>
    simp only [ho] at h ⊢;split at h
    · rename_i hw
      rw [if_pos hw,if_pos h.1];exact chainRes_mono (fun v w' hs hk'=>hk _ _ hs hk') h.2
    · rename_i hw
      rw [if_neg hw];exact hk _ _ (.inl hS) h
theorem wpAnyX_tree {Q : Act → World → Prop} (hs : Region.noSelect ops = true) : ∀ (T : Sched) (fuel : Nat) (listed : Array Bool) (a : Act) (w : World),EndInv md ops fb listed → (S w ∨ (fb = true ∧ Region.ready md ops listed = [])) →
    T.ok md ops listed = true → T.depth ≤ fuel → wpT0 P ops S cv fb Q T a w → wpAnyX P md ops S cv fb Q fuel listed a w:=by
  have after : ∀ {i : Nat} {listed : Array Bool} {w' : World},EndInv md ops fb listed → i ∈ Region.ready md ops listed → cls ops S fb i w' → S w' ∨ (fb = true ∧ Region.ready md ops (listed.setIfInBounds i true) = []):=by
    intro i listed w' hI hi hc;rcases hc with hc | ⟨hfb,he⟩
    · exact .inl hc
    · right
      refine ⟨hfb,?_⟩;rcases ((hI.set hi).inv hfb).2 with h1 | h1
      · exfalso
        have:=h1.tail i (by omega) (by omega);have hsz : i < (listed.setIfInBounds i true).size:=by rw [h1.size];omega
        have hsz' : i < listed.size:=by simpa using hsz
        simp [hsz'] at this
      · exact h1
  have nonempty : ∀ {i : Nat} {listed : Array Bool} {w : World},i ∈ Region.ready md ops listed → (S w ∨ (fb = true ∧ Region.ready md ops listed = [])) → S w:=by
    intro i listed w hi h;rcases h with h | ⟨_,h⟩
    · exact h
    · rw [h] at hi;cases hi
  intro T;induction T with
  | done =>
    intro fuel listed a w _ _ hok _ h;have h0 : Region.ready md ops listed = []:=by simpa [Sched.ok] using hok
    cases fuel with
    | zero=>exact ⟨h0,h⟩
    | succ f=>exact ⟨fun _=>h,fun i hi=>by rw [h0] at hi;cases hi⟩
  | loose i n ih =>
    intro fuel listed a w hI hSw hok hd h;simp only [Sched.ok,Bool.and_eq_true] at hok;obtain ⟨⟨hr,hf⟩,hn⟩:=hok;have hr' : i ∈ Region.ready md ops listed:=by simpa using hr
    have hS:=nonempty hr' hSw;cases fuel with
    | zero=>simp [Sched.depth] at hd
    | succ f =>
      have hd' : n.depth ≤ f:=by simp [Sched.depth] at hd;omega
      unfold wpT0 at h;split at h
      · exact h.elim
      · rename_i o ho
        split at h
        · rename_i hw
          obtain ⟨hc,v,hv,hk⟩:=h;exact X_first_loose ho (Region.noSelect_spec hs) f listed a w hI hS (Region.free_spec ho hf) hr' (.inl ⟨hw,hc,hv⟩) (ih f _ _ w (hI.set hr') (.inl hS) hn hd' hk)
        · rename_i hw
          exact X_first_loose ho (Region.noSelect_spec hs) f listed a w hI hS (Region.free_spec ho hf) hr' (.inr ⟨by simpa using hw,rfl⟩) (ih f _ _ w (hI.set hr') (.inl hS) hn hd' h)
  | one i n ih =>
    intro fuel listed a w hI hSw hok hd h;simp only [Sched.ok,Bool.and_eq_true,beq_iff_eq] at hok;obtain ⟨hr,hn⟩:=hok;have hr' : i ∈ Region.ready md ops listed:=by rw [hr];simp
    have hS:=nonempty hr' hSw;cases fuel with
    | zero=>simp [Sched.depth] at hd
    | succ f =>
      have hd' : n.depth ≤ f:=by simp [Sched.depth] at hd;omega
      refine ⟨fun h0=>(by rw [hr] at h0;cases h0),fun x hx=>?_⟩;have hx':=hx;rw [hr] at hx';obtain rfl : x = i:=by simpa using hx'
      exact stepT_lx hS (fun a' w' hc hk=>ih f _ a' w' (hI.set hx) (after hI hx hc) hn hd' hk) h
  | two i n j m ih1 ih2 =>
    intro fuel listed a w hI hSw hok hd h;simp only [Sched.ok,Bool.and_eq_true,beq_iff_eq] at hok;obtain ⟨⟨hr,hn⟩,hm⟩:=hok;have hS:=nonempty (i:=i) (by rw [hr];simp) hSw;cases fuel with
    | zero=>simp [Sched.depth] at hd
    | succ f =>
      have hd1 : n.depth ≤ f:=by simp [Sched.depth] at hd;omega
      have hd2 : m.depth ≤ f:=by simp [Sched.depth] at hd;omega
      refine ⟨fun h0=>(by rw [hr] at h0;cases h0),fun x hx=>?_⟩;have hx':=hx;rw [hr] at hx';rcases List.mem_cons.1 hx' with rfl | hx'
      · exact stepT_lx hS (fun a' w' hc hk=>ih1 f _ a' w' (hI.set hx) (after hI hx hc) hn hd1 hk) h.1
      · obtain rfl : x = j:=by simpa using hx'
        exact stepT_lx hS (fun a' w' hc hk=>ih2 f _ a' w' (hI.set hx) (after hI hx hc) hm hd2 hk) h.2
  | three i n j m k l ih1 ih2 ih3 =>
    intro fuel listed a w hI hSw hok hd h;simp only [Sched.ok,Bool.and_eq_true,beq_iff_eq] at hok;obtain ⟨⟨⟨hr,hn⟩,hm⟩,hl⟩:=hok;have hS:=nonempty (i:=i) (by rw [hr];simp) hSw;cases fuel with
    | zero=>simp [Sched.depth] at hd
    | succ f =>
      have hd1 : n.depth ≤ f:=by simp [Sched.depth] at hd;omega
      have hd2 : m.depth ≤ f:=by simp [Sched.depth] at hd;omega
      have hd3 : l.depth ≤ f:=by simp [Sched.depth] at hd;omega
      refine ⟨fun h0=>(by rw [hr] at h0;cases h0),fun x hx=>?_⟩;have hx':=hx;rw [hr] at hx';rcases List.mem_cons.1 hx' with rfl | hx'
      · exact stepT_lx hS (fun a' w' hc hk=>ih1 f _ a' w' (hI.set hx) (after hI hx hc) hn hd1 hk) h.1
      · rcases List.mem_cons.1 hx' with rfl | hx'
        · exact stepT_lx hS (fun a' w' hc hk=>ih2 f _ a' w' (hI.set hx) (after hI hx hc) hm hd2 hk) h.2.1
        · obtain rfl : x = k:=by simpa using hx'
          exact stepT_lx hS (fun a' w' hc hk=>ih3 f _ a' w' (hI.set hx) (after hI hx hc) hl hd3 hk) h.2.2
structure wpTx (P : Program) (ops : Array Oper) (S : World → Prop) (cv : Op → Bool) (fb : Bool) (Q : Act → World → Prop) (T : Sched) (a : Act) (w : World) : Prop where
  out : wpT0 P ops S cv fb Q T a w
theorem wp_region_tree {id : Nat} {Q : Exit → Act → World → Prop} {a : Act} {w : World} {ops : Array Oper} (T : Sched) (S : World → Prop) (cv : Op → Bool) (hm : P.follows .mixedOrders = true) (hs : Region.noSelect ops = true) (hT : T.ok .any ops (Array.replicate ops.size false) = true) (hd : Nat.ble T.depth ops.size = true) (hS : S w.drew)
    (h : wpTx P ops S cv false (fun a' w'=>S w' → Q .normal a' w') T a w.drew) : (Code.region id ops true).wp P Q a w:=by
  have hI : EndInv .any ops false (Array.replicate ops.size false):=⟨by simp⟩
  exact wp_region_any hm (wpAny_of_X (S:=S) (cv:=cv) (fb:=false) (Q:=fun a' w'=>S w' → Q .normal a' w') (fun _ w' hw' h=>h (hw'.elim (fun h=>h) (by simp))) _ _ _ _ hI (.inl hS)
    (wpAnyX_tree (md:=.any) hs T _ _ a w.drew hI (.inl hS) hT (Nat.le_of_ble_eq_true hd) h.out))
variable {Q : Act → World → Prop} {a : Act} {w : World} {o : Oper} {i j k : Nat} {n m l : Sched}
theorem wpTx_done (h : Q a w) : wpTx P ops S cv fb Q .done a w:=⟨h⟩
theorem wpTx_loose (ho' : nthL ops.toList i = some o) (hc : chainOp cv o = false)
    (h : ∀ K : Act → Prop,(∀ a,wpTx P ops S cv fb Q n a w → K a) → if Region.wanted o (yielded ops a.tmps) then (∃ v,(∀ x : Subtype S,looseRes x.1 v ((execOp a.eval o).run P x.1)) ∧ K (a.put o.dst v)) else K (a.put o.dst undef)) : wpTx P ops S cv fb Q (.loose i n) a w:=by
  have ho:=nthL_ops ho';have:=h _ (fun _ h=>h);refine ⟨?_⟩;unfold wpT0;simp only [ho];split
  · rename_i hw
    rw [if_pos hw] at this;obtain ⟨v,hv,hk⟩:=this;exact ⟨hc,v,fun w' hs=>hv ⟨w',hs⟩,hk.out⟩
  · rename_i hw;rw [if_neg hw] at this;exact this.out
theorem wpTx_one (hS : S w) (ho' : nthL ops.toList i = some o) (hc : chainOp cv o = true)
    (h : ∀ K : Act → World → Prop,(∀ a w,wpTx P ops S cv fb Q n a w → K a w) → if Region.wanted o (yielded ops a.tmps) then chainRes P S (fun v w'=>K (a.put o.dst v) w') ((execOp a.eval o).run P w) else K (a.put o.dst undef) w) : wpTx P ops S cv fb Q (.one i n) a w:=by
  have ho:=nthL_ops ho';have:=h _ (fun _ _ h=>h);refine ⟨?_⟩;unfold wpT0 stepT;simp only [ho];split
  · rename_i hw;rw [if_pos hw] at this;exact ⟨hc,chainRes_weaken (fun _ h=>.inl h) (fun _ _ _ h=>h.out) this⟩
  · rename_i hw;rw [if_neg hw] at this;exact this.out
theorem wpTx_two (h1 : wpTx P ops S cv fb Q (.one i n) a w) (h2 : wpTx P ops S cv fb Q (.one j m) a w) : wpTx P ops S cv fb Q (.two i n j m) a w:=⟨⟨h1.out,h2.out⟩⟩
end
def cvOf (n : TypeId) (op : Op) : Bool:=match op with | .load t _=>t == n | _=>false
end LC
section
open Go.RowKit Stb
def rowsF (f : Nat → MarkV) (n : Nat) : List (Array Value):=(List.range n).map fun k=>markVC (f k)
theorem rowsF_set (f : Nat → MarkV) (n i : Nat) (x : MarkV) : (rowsF f n).set i (markVC x) = rowsF (fun k=>if k = i then x else f k) n:=by
  unfold rowsF;apply List.ext_getElem?;intro k;rw [List.getElem?_set];simp only [List.getElem?_map,List.length_map,List.length_range];by_cases hk : k < n
  · rw [List.getElem?_range hk];by_cases h : i = k
    · subst h;simp [hk]
    · rw [if_neg h];simp [Ne.symm h]
  · rw [List.getElem?_eq_none (by simpa using hk)];by_cases h : i = k
    · subst h;simp [hk]
    · rw [if_neg h];rfl
theorem swp_two (f : Nat → MarkV) (i j : Nat) : (fun k=>if k = j then f i else (fun k=>if k = i then f j else f k) k) = swp f i j:=by
  funext k;unfold Stb.swp
  by_cases h1 : k = i <;> by_cases h2 : k = j <;> simp [h1,h2]
  all_goals (try subst h1);(try subst h2);simp_all
theorem einfoMark : ElemInfo Tryz.prog 22 41 34 56 :=
  .of (z:=.agg (markVC markV0)) Tryz.underlying22 (by kernel_rfl) (by kernel_rfl) (by kernel_rfl) (markVC_size _) (by omega)
abbrev OwnF (w : World) (B g n cap : Nat) (f : Nat → MarkV) : Prop:=Own w B 41 34 (some ⟨g,0,none⟩) n cap (rowsF f n)
theorem OwnF.row {w : World} {B g n cap : Nat} {f : Nat → MarkV} (h : OwnF w B g n cap f) {i : Nat} (hi : i < n) : rowAt w g (i * 34) 34 = some (markVC (f i)):=by
  obtain ⟨q,o,e,hr⟩:=h.slr.at_ hi;injection e with e;injection e with e1 e2
  subst e1;subst e2;rw [Nat.zero_add] at hr;rw [hr];simp [rowsF]
theorem OwnF.store {w : World} {B g n cap : Nat} {f : Nat → MarkV} (h : OwnF w B g n cap f) {i : Nat} (hi : i < n) (x : MarkV) :
    ∃ w',(stS 41 ⟨g,i * 34,none⟩ (.agg (markVC x))).run Tryz.prog w = .ok () w' ∧ OwnF w' B g n cap (fun k=>if k = i then x else f k) ∧ Keep [g] w w':=by
  obtain ⟨w',h1,h2,h3⟩:=own_store einfoMark h hi (markVC_size x) (markVC_one x);exact ⟨w',h1,by rw [rowsF_set] at h2;exact h2,h3⟩
set_option maxRecDepth 100000 in
set_option maxHeartbeats 4000000 in
theorem swapRange_any (w : World) (B g n cap : Nat) (f : Nat → MarkV) (a b m : Nat) (fv : Value) (hown : OwnF w B g n cap f) (hab : a + m ≤ b) (hb : b + m ≤ n) (hn : n ≤ 1000000) :
    Calls Tryz.prog 279 #[.slice (some ⟨g,0,none⟩) n cap,.int .i64 a,.int .i64 b,.int .i64 m,fv] w fun e w'=>e = .returned (.tuple #[]) ∧ OwnF w' B g n cap (swr f a b m) ∧ Keep [g] w w':=by
  go_enter Tryz.func279,Tryz.ntmps279
  (go_wp2_with fail);go_loopw [10] (fun iv wr=>∃ i : Nat,i ≤ m ∧ iv = .int .i64 i ∧ OwnF wr B g n cap (swr f a b i) ∧ Keep [g] w wr) (fun iv _=>m - (intOf iv).toNat)
  case atStart=>exact ⟨0,Nat.zero_le _,rfl,by rw [swr_zero];exact hown,Keep.refl _ _⟩
  case round =>
    obtain ⟨i,hi,rfl,ho,hk⟩:=hrel;by_cases hlt : i < m
    · have ha1 : ((a : Int) + (i : Int)) = ((a + i : Nat) : Int):=by omega
      have hb1 : ((b : Int) + (i : Int)) = ((b + i : Nat) : Int):=by omega
      have hsw:=swr_succ f a b i (by omega);have Hsw:=Lib.hid hsw;obtain ⟨x,hx⟩ : ∃ x,a + i = x:=⟨_,rfl⟩
      obtain ⟨y,hy⟩ : ∃ y,b + i = y:=⟨_,rfl⟩
      rw [hx] at ha1;rw [hy] at hb1;have hw1 : IntKind.i64.wrap (x : Int) = (x : Int):=IntWalk.i64_in _ (by omega);have hw2 : IntKind.i64.wrap (y : Int) = (y : Int):=IntWalk.i64_in _ (by omega);have hxn : x < n:=by omega
      have hyn : y < n:=by omega
      have Hx:=Lib.hid hx;have Hy:=Lib.hid hy;obtain ⟨f',hf'⟩ : ∃ f',swr f a b i = f':=⟨_,rfl⟩
      rw [hf'] at ho;have Hf':=Lib.hid hf';clear hsw hx hy hf';go_upto_region 3 with fail
      have hod : OwnF wr.drew B g n cap f':=Own.below ho (Below.refl _ _).drew;refine LC.wp_region_tree (.loose 0 (.loose 1 (.loose 2 (.loose 3 (.loose 4 (.loose 5 (.loose 6 (.loose 7 (.loose 8 (.loose 9 (.loose 10 (.loose 11 (.loose 12 (.loose 14 (.loose 15 (.loose 16 (.loose 17 (.loose 18 (.two 13 (.one 19 (.loose 20 (.one 21 (.loose 22 (.one 23 .done))))) 19 (.one 13 (.loose 20 (.one 21 (.loose 22 (.one 23 .done)))))))))))))))))))))))) (Kp ([g]) wr) (LC.cvOf 41) (by kernel_rfl) (by kernel_rfl) (by kernel_rfl) (by kernel_rfl) (kp_drew ([g]) wr) ?_;have hne:=kp_some ([g]) wr;have hS:=kp_drew ([g]) wr;obtain ⟨W,hW⟩ : ∃ W,wr.drew = W:=⟨_,rfl⟩
      rw [hW] at hod hS ⊢;have hrx:=hod.row hxn;have hry:=hod.row hyn;clear hW;repeat (refine LC.wpTx_loose rfl ?_ ?_;(focus (first | (simp only [LC.chainOp,LC.cvOf];done) | rfl));intro K hK;go_simp;refine hK _ ?_;clear hK K)
      refine LC.wpTx_two ?_ ?_
      · skip;refine LC.wpTx_one ?_ rfl ?_ ?_;(focus (exact hS));focus (first | (simp only [LC.chainOp,LC.cvOf];done) | rfl)
        intro K hK;go_simp;refine hK _ _ ?_;clear hK K;refine LC.wpTx_one ?_ rfl ?_ ?_;(focus (exact hS));focus (first | (simp only [LC.chainOp,LC.cvOf];done) | rfl)
        intro K hK;go_simp;refine hK _ _ ?_;clear hK K;repeat (refine LC.wpTx_loose rfl ?_ ?_;(focus (first | (simp only [LC.chainOp,LC.cvOf];done) | rfl));intro K hK;go_simp;refine hK _ ?_;clear hK K)
        refine LC.wpTx_one ?_ rfl ?_ ?_;(focus (exact hS));focus (first | (simp only [LC.chainOp,LC.cvOf];done) | rfl)
        intro K hK;go_simp;obtain ⟨w2,hst2,ho2,hk2⟩:=hod.store hxn (f' y);rw [hst2];go_simp;have hS2 : Kp [g] wr w2:=Keep.trans hS hk2 (by simp);refine ⟨hS2,hK _ _ ?_⟩;clear hK K hS hk2 hst2;have hS:=hS2;clear hS2;repeat (refine LC.wpTx_loose rfl ?_ ?_;(focus (first | (simp only [LC.chainOp,LC.cvOf];done) | rfl));intro K hK;go_simp;refine hK _ ?_;clear hK K)
        refine LC.wpTx_one ?_ rfl ?_ ?_;(focus (exact hS));focus (first | (simp only [LC.chainOp,LC.cvOf];done) | rfl)
        intro K hK;go_simp;obtain ⟨w3,hst3,ho3,hk3⟩:=ho2.store hyn (f' x);rw [hst3];go_simp;have hS2 : Kp [g] wr w3:=Keep.trans hS hk3 (by simp);refine ⟨hS2,hK _ _ ?_⟩;clear hK K hS hk3 hst3;have hS:=hS2;clear hS2;refine LC.wpTx_done ?_;intro hS;rw [swp_two f' x y] at ho3;have hkz : Keep [g] w w3:=Keep.trans hk hS (by simp);clear hS hne hk ho2 hod ho hrx hry;(go_wp2_with fail);go_roundw
        case rel=>exact ⟨i + 1,by omega,by go_num,by rw [← Hsw.out,Hf'.out,Hx.out,Hy.out];exact ho3,hkz⟩
        case measure=>simp [intOf];omega
      · skip;refine LC.wpTx_one ?_ rfl ?_ ?_;(focus (exact hS));focus (first | (simp only [LC.chainOp,LC.cvOf];done) | rfl)
        intro K hK;go_simp;refine hK _ _ ?_;clear hK K;refine LC.wpTx_one ?_ rfl ?_ ?_;(focus (exact hS));focus (first | (simp only [LC.chainOp,LC.cvOf];done) | rfl)
        intro K hK;go_simp;refine hK _ _ ?_;clear hK K;repeat (refine LC.wpTx_loose rfl ?_ ?_;(focus (first | (simp only [LC.chainOp,LC.cvOf];done) | rfl));intro K hK;go_simp;refine hK _ ?_;clear hK K)
        refine LC.wpTx_one ?_ rfl ?_ ?_;(focus (exact hS));focus (first | (simp only [LC.chainOp,LC.cvOf];done) | rfl)
        intro K hK;go_simp;obtain ⟨w2,hst2,ho2,hk2⟩:=hod.store hxn (f' y);rw [hst2];go_simp;have hS2 : Kp [g] wr w2:=Keep.trans hS hk2 (by simp);refine ⟨hS2,hK _ _ ?_⟩;clear hK K hS hk2 hst2;have hS:=hS2;clear hS2;repeat (refine LC.wpTx_loose rfl ?_ ?_;(focus (first | (simp only [LC.chainOp,LC.cvOf];done) | rfl));intro K hK;go_simp;refine hK _ ?_;clear hK K)
        refine LC.wpTx_one ?_ rfl ?_ ?_;(focus (exact hS));focus (first | (simp only [LC.chainOp,LC.cvOf];done) | rfl)
        intro K hK;go_simp;obtain ⟨w3,hst3,ho3,hk3⟩:=ho2.store hyn (f' x);rw [hst3];go_simp;have hS2 : Kp [g] wr w3:=Keep.trans hS hk3 (by simp);refine ⟨hS2,hK _ _ ?_⟩;clear hK K hS hk3 hst3;have hS:=hS2;clear hS2;refine LC.wpTx_done ?_;intro hS;rw [swp_two f' x y] at ho3;have hkz : Keep [g] w w3:=Keep.trans hk hS (by simp);clear hS hne hk ho2 hod ho hrx hry;(go_wp2_with fail);go_roundw
        case rel=>exact ⟨i + 1,by omega,by go_num,by rw [← Hsw.out,Hf'.out,Hx.out,Hy.out];exact ho3,hkz⟩
        case measure=>simp [intOf];omega
    · obtain rfl : i = m:=by omega
      (go_wp2_with fail);refine bodyPost_end (results_none rfl _ _ _) rfl ?_;exact ⟨rfl,ho,hk⟩
end
section
open Go.RowKit Stb
set_option maxRecDepth 100000 in
set_option maxHeartbeats 4000000 in
theorem rotate_any (w : World) (B g n cap : Nat) (f : Nat → MarkV) (a m b : Nat) (fv : Value) (hown : OwnF w B g n cap f) (ham : a < m) (hmb : m < b) (hb : b ≤ n) (hn : n ≤ 1000000) :
    Calls Tryz.prog 240 #[.slice (some ⟨g,0,none⟩) n cap,.int .i64 a,.int .i64 m,.int .i64 b,fv] w fun e w'=>e = .returned (.tuple #[]) ∧ OwnF w' B g n cap (rot f a m b) ∧ Keep [g] w w':=by
  go_enter Tryz.func240,Tryz.ntmps240
  obtain ⟨i0,hi0⟩ : ∃ i0,m - a = i0:=⟨_,rfl⟩
  obtain ⟨j0,hj0⟩ : ∃ j0,b - m = j0:=⟨_,rfl⟩
  have hs1 : ((m : Int) - (a : Int)) = (i0 : Int):=by omega
  have hs2 : ((b : Int) - (m : Int)) = (j0 : Int):=by omega
  have hw1 : IntKind.i64.wrap (i0 : Int) = (i0 : Int):=IntWalk.i64_in _ (by omega);have hw2 : IntKind.i64.wrap (j0 : Int) = (j0 : Int):=IntWalk.i64_in _ (by omega);(go_wp2_with fail);clear hs1 hs2 hw1 hw2;go_loopw [10,11] (fun iv jv wr=>∃ (i j : Nat) (f' : Nat → MarkV),iv = .int .i64 i ∧ jv = .int .i64 j ∧ 0 < i ∧ 0 < j ∧ i ≤ i0 ∧ j ≤ j0 ∧ OwnF wr B g n cap f' ∧ Hid (rot f' (m - i) m (m + j) = rot f a m b) ∧ Keep [g] w wr) (fun iv jv _=>(intOf iv).toNat + (intOf jv).toNat)
  case atStart =>
    refine ⟨i0,j0,f,rfl,rfl,by omega,by omega,Nat.le_refl _,Nat.le_refl _,hown,Lib.hid ?_,Keep.refl _ _⟩;rw [show m - i0 = a by omega,show m + j0 = b by omega]
  case round =>
    obtain ⟨i,j,f',rfl,rfl,hi,hj,hii,hjj,ho,Hr,hk⟩:=hrel;obtain ⟨p,hp⟩ : ∃ p,m - i = p:=⟨_,rfl⟩
    have hp1 : ((m : Int) - (i : Int)) = (p : Int):=by omega
    have hw1 : IntKind.i64.wrap (p : Int) = (p : Int):=IntWalk.i64_in _ (by omega);rcases Nat.lt_trichotomy i j with hlt | heq | hgt
    · obtain ⟨s,hs⟩ : ∃ s,m + j = s:=⟨_,rfl⟩
      obtain ⟨q,hq⟩ : ∃ q,s - i = q:=⟨_,rfl⟩
      obtain ⟨r,hr⟩ : ∃ r,j - i = r:=⟨_,rfl⟩
      have hs1 : ((m : Int) + (j : Int)) = (s : Int):=by omega
      have hq1 : ((s : Int) - (i : Int)) = (q : Int):=by omega
      have hr1 : ((j : Int) - (i : Int)) = (r : Int):=by omega
      have hw2 : IntKind.i64.wrap (s : Int) = (s : Int):=IntWalk.i64_in _ (by omega);have hw3 : IntKind.i64.wrap (q : Int) = (q : Int):=IntWalk.i64_in _ (by omega);have hw4 : IntKind.i64.wrap (r : Int) = (r : Int):=IntWalk.i64_in _ (by omega);have c1:=fun w' (h' : OwnF w' B g n cap f')=>swapRange_any w' B g n cap f' p q i fv h' (by omega) (by omega) hn;go_wp2_with fail
      all_goals (first | (exfalso;omega) | skip)
      refine (c1 _ ho).mono ?_;rintro e w1 ⟨rfl,ho1,hk1⟩;have hkz : Keep [g] w w1:=Keep.trans hk hk1 (by simp);clear ho hk hk1 c1;(go_wp2_with fail);go_roundw
      case rel =>
        refine ⟨i,r,_,by go_num,by go_num,hi,by omega,hii,by omega,ho1,Lib.hid ?_,hkz⟩;rw [← Hr.out,← rot_right f' m i j (by omega) hi hlt,hs,hq,hr,hp]
      case measure=>simp [intOf];omega
    · subst heq;have c1:=fun w' (h' : OwnF w' B g n cap f')=>swapRange_any w' B g n cap f' p m i fv h' (by omega) (by omega) hn;go_wp2_with fail
      all_goals (first | (exfalso;omega) | skip)
      refine (c1 _ ho).mono ?_;rintro e w1 ⟨rfl,ho1,hk1⟩;have hkz : Keep [g] w w1:=Keep.trans hk hk1 (by simp);clear ho hk hk1 c1;(go_wp2_with fail);refine bodyPost_end (results_none rfl _ _ _) rfl ?_;refine ⟨rfl,?_,hkz⟩;rw [← Hr.out,← rot_even f' m i (by omega),hp];exact ho1
    · obtain ⟨r,hr⟩ : ∃ r,i - j = r:=⟨_,rfl⟩
      have hr1 : ((i : Int) - (j : Int)) = (r : Int):=by omega
      have hw4 : IntKind.i64.wrap (r : Int) = (r : Int):=IntWalk.i64_in _ (by omega);have c1:=fun w' (h' : OwnF w' B g n cap f')=>swapRange_any w' B g n cap f' p m j fv h' (by omega) (by omega) hn;go_wp2_with fail
      all_goals (first | (exfalso;omega) | skip)
      refine (c1 _ ho).mono ?_;rintro e w1 ⟨rfl,ho1,hk1⟩;have hkz : Keep [g] w w1:=Keep.trans hk hk1 (by simp);clear ho hk hk1 c1;(go_wp2_with fail);go_roundw
      case rel =>
        refine ⟨r,j,_,by go_num,by go_num,by omega,hj,by omega,hjj,ho1,Lib.hid ?_,hkz⟩;rw [← Hr.out,← rot_left f' m i j (by omega) hj hgt,hr,hp]
      case measure=>simp [intOf];omega
end
section
open Go.RowKit Stb
def markLtB (x y : MarkV) : Bool:=aheadB x.h x.id y.h y.id
def markLt (x y : MarkV) : Prop:=markLtB x y = true
def ordI (x y : MarkV) : Int:=if markLtB x y then -1 else if markLtB y x then 1 else 0
theorem ordI_neg (x y : MarkV) : decide (ordI x y < 0) = markLtB x y:=by
  unfold ordI;split
  · rename_i h;rw [h];rfl
  · rename_i h
    rw [Bool.not_eq_true] at h;rw [h];split <;> rfl
theorem ordI_range (x y : MarkV) : -1 ≤ ordI x y ∧ ordI x y ≤ 1:=by
  unfold ordI;repeat' split
  all_goals omega
theorem markLt_iff (x y : MarkV) : markLt x y ↔ x.h < y.h ∨ (x.h = y.h ∧ cmpId x.id y.id < 0):=by
  unfold markLt markLtB aheadB;split
  · rename_i h;simp [h]
  · rename_i h;simp [h]
theorem sordMark : SOrd markLt where
  irr x:=by rw [markLt_iff,cmpId_self];omega
  asy x y:=by
    rw [markLt_iff,markLt_iff,cmpId_anti x.id y.id];omega
  tr x y z:=by
    rw [markLt_iff,markLt_iff,markLt_iff];intro h1 h2 h3;by_cases e1 : z.h = x.h
    · have hyx : y.h = x.h:=by
        rcases h3 with h3 | h3 <;> omega
      have k1 : ¬ cmpId y.id x.id < 0:=fun h=>h1 (.inr ⟨hyx,h⟩);have k2 : ¬ cmpId z.id y.id < 0:=fun h=>h2 (.inr ⟨by omega,h⟩);have k3 : cmpId z.id x.id < 0:=by rcases h3 with h3 | h3;omega;exact h3.2
      have a1:=cmpId_anti x.id y.id;have a2:=cmpId_anti y.id z.id;by_cases z1 : cmpId x.id y.id = 0
      · rw [(cmpId_zero _ _).1 z1] at k3;exact k2 k3
      · by_cases z2 : cmpId y.id z.id = 0
        · rw [← (cmpId_zero _ _).1 z2] at k3;exact k1 k3
        · have:=cmpId_trans x.id y.id z.id (by omega) (by omega);have:=cmpId_anti x.id z.id;omega
    · have : z.h < x.h:=by rcases h3 with h3 | h3;exact h3;exact absurd h3.1 e1
      by_cases e2 : y.h < x.h
      · exact h1 (.inl e2)
      · exact h2 (.inl (by omega))
theorem markLt_conn (x y : MarkV) (h : ¬ markLt x y) (h' : ¬ markLt y x) : x.id = y.id:=by
  rw [markLt_iff] at h h';have a:=cmpId_anti x.id y.id;have e : x.h = y.h:=by omega
  apply (cmpId_zero _ _).1;have : ¬ cmpId x.id y.id < 0:=fun h1=>h (.inr ⟨e,h1⟩);have : ¬ cmpId y.id x.id < 0:=fun h1=>h' (.inr ⟨e.symm,h1⟩);omega
set_option maxRecDepth 100000 in
set_option maxHeartbeats 4000000 in
theorem dorder_any (x y : MarkV) (w : World) :
    Calls Tryz.prog 52 #[.agg (markVC x),.agg (markVC y)] w fun e w'=>e = .returned (.int .i64 (ordI x y)) ∧ Below w.heap.size w w':=by
  have hB : Below w.heap.size w ((w.alloc (.cells (markVC x) 41)).alloc (.cells (markVC y) 41)):=((Below.refl _ _).alloc (Nat.le_refl _) _).alloc (by simp) _;have r1 : rowAt ((w.alloc (.cells (markVC x) 41)).alloc (.cells (markVC y) 41)) w.heap.size 0 34 = some (markVC x):=by simp [go_sem]
  have r2 : rowAt ((w.alloc (.cells (markVC x) 41)).alloc (.cells (markVC y) 41)) (w.heap.size + 1) 0 34 = some (markVC y):=by simp [go_sem]
  obtain ⟨W,hW⟩ : ∃ W,(w.alloc (.cells (markVC x) 41)).alloc (.cells (markVC y) 41) = W:=⟨_,rfl⟩
  go_enter Tryz.func52,Tryz.ntmps52
  go_upto_region 1 with fail
  rw [hW] at hB r1 r2;obtain ⟨g1,hg1⟩ : ∃ g1,w.heap.size = g1:=⟨_,rfl⟩
  obtain ⟨g2,hg2⟩ : ∃ g2,g1 + 1 = g2:=⟨_,rfl⟩
  rw [hg1,hg2] at r2;have hs0 : g1 ≤ W.heap.size:=by rw [← hg1];exact hB.size
  rw [hg1] at r1 hB;rw [hg1,hg2];have a1 : rowAt W g1 0 32 = some (idC x.id):=by have:=rowAt_sub r1 (j:=0) (m:=32) (by omega);rwa [markVC_e0] at this
  have a2 : rowAt W g2 0 32 = some (idC y.id):=by have:=rowAt_sub r2 (j:=0) (m:=32) (by omega);rwa [markVC_e0] at this
  have b1 : W.cell? ⟨g1,32,none⟩ = some (.int .i64 x.h):=by have:=rowAt_cell r1 (j:=32) (by omega);rwa [markVC_g32,Nat.zero_add] at this
  have b2 : W.cell? ⟨g2,32,none⟩ = some (.int .i64 y.h):=by have:=rowAt_cell r2 (j:=32) (by omega);rwa [markVC_g32,Nat.zero_add] at this
  have c1:=hahead x.h x.id y.h y.id W;have ho : ordI x y = if markLtB x y then -1 else if markLtB y x then 1 else 0:=rfl;have e1 : aheadB x.h x.id y.h y.id = markLtB x y:=rfl;have e2 : aheadB y.h y.id x.h x.id = markLtB y x:=rfl;rw [e1] at c1;have c2:=fun w=>hahead y.h y.id x.h x.id w;rw [e2] at c2;obtain ⟨t1,ht1⟩ : ∃ t1,markLtB x y = t1:=⟨_,rfl⟩
  obtain ⟨t2,ht2⟩ : ∃ t2,markLtB y x = t2:=⟨_,rfl⟩
  rw [ht1] at c1 ho;rw [ht2] at c2 ho;have Ho:=Lib.hid ho;have Hg:=Lib.hid hg1;clear e1 e2 ho ht1 ht2 hW r1 r2 hg1 hg2;(go_wp2_with fail);refine c1.mono ?_;rintro e w1 ⟨rfl,hb1⟩;have a3 : rowAt w1 g1 0 32 = some (idC x.id):=(rowAt_of_block (hb1.block _ (rowAt_lt a1)) _ _).trans a1;have a4 : rowAt w1 g2 0 32 = some (idC y.id):=(rowAt_of_block (hb1.block _ (rowAt_lt a2)) _ _).trans a2;have b3 : w1.cell? ⟨g1,32,none⟩ = some (.int .i64 x.h):=by rw [hb1.cell (rowAt_lt a1)];exact b1
  have b4 : w1.cell? ⟨g2,32,none⟩ = some (.int .i64 y.h):=by rw [hb1.cell (rowAt_lt a2)];exact b2
  have hB1 : Below g1 w w1:=hB.trans (hb1.mono hs0);have hs1 : g1 ≤ w1.heap.size:=Nat.le_trans hs0 hb1.size;clear c1 a1 a2 b1 b2 hb1 hB hs0;cases t1 with
  | true =>
    (go_wp2_with fail);go_ret;exact ⟨by rw [Ho.out];rfl,by rw [Hg.out];exact hB1⟩
  | false =>
    (go_wp2_with fail);refine (c2 _).mono ?_;rintro e w2 ⟨rfl,hb2⟩;have hB2 : Below g1 w w2:=hB1.trans (hb2.mono hs1);clear c2 a3 a4 b3 b4 hb2 hB1;cases t2 with
    | true =>
      (go_wp2_with fail);go_ret;exact ⟨by rw [Ho.out];rfl,by rw [Hg.out];exact hB2⟩
    | false =>
      (go_wp2_with fail);go_ret;exact ⟨by rw [Ho.out];rfl,by rw [Hg.out];exact hB2⟩
end
section
open Go.RowKit Stb
set_option maxRecDepth 100000 in
set_option maxHeartbeats 4000000 in
theorem insSort_any (w : World) (B g n cap : Nat) (f : Nat → MarkV) (a b : Nat) (hown : OwnF w B g n cap f) (hab : a ≤ b) (hb : b ≤ n) (hn : n ≤ 1000000) :
    Calls Tryz.prog 191 #[.slice (some ⟨g,0,none⟩) n cap,.int .i64 a,.int .i64 b,.func (.func 52) #[] #[]] w fun e w'=>e = .returned (.tuple #[]) ∧ (∃ f',OwnF w' B g n cap f' ∧ Sw a b f f' ∧ Srt markLt a b f') ∧ Keep [g] w w':=by
  go_enter Tryz.func191,Tryz.ntmps191
  obtain ⟨i0,hi0⟩ : ∃ i0,a + 1 = i0:=⟨_,rfl⟩
  have hs1 : ((a : Int) + 1) = (i0 : Int):=by omega
  have hw1 : IntKind.i64.wrap (i0 : Int) = (i0 : Int):=IntWalk.i64_in _ (by omega);(go_wp2_with fail);clear hs1 hw1;go_loopw [8] (fun iv wr=>∃ (i : Nat) (f' : Nat → MarkV),iv = .int .i64 i ∧ i0 ≤ i ∧ (i ≤ b ∨ i = i0) ∧ OwnF wr B g n cap f' ∧ Hid (Sw a b f f' ∧ Srt markLt a i f') ∧ Keep [g] w wr) (fun iv _=>b - (intOf iv).toNat)
  case atStart =>
    exact ⟨i0,f,rfl,Nat.le_refl _,.inr rfl,hown,Lib.hid ⟨Sw.refl _ _ _,fun i j h1 h2 h3=>by omega⟩,Keep.refl _ _⟩
  case round =>
    obtain ⟨i,f',rfl,hi1,hi2,ho,HH,hk⟩:=hrel;by_cases hlt : i < b
    · obtain ⟨i2,hi2⟩ : ∃ i2,i + 1 = i2:=⟨_,rfl⟩
      have hs2 : ((i : Int) + 1) = (i2 : Int):=by omega
      have hw2 : IntKind.i64.wrap (i2 : Int) = (i2 : Int):=IntWalk.i64_in _ (by omega);have Hi2:=Lib.hid hi2;(go_wp2_with fail);go_loopw [9] (fun jv wj=>∃ (j : Nat),jv = .int .i64 j ∧ a ≤ j ∧ j ≤ i ∧ OwnF wj B g n cap (rot f' j i (i + 1)) ∧ Hid (j < i → markLt (f' i) (f' j)) ∧ Keep [g] w wj) (fun jv _=>(intOf jv).toNat)
      case atStart =>
        exact ⟨i,rfl,by omega,Nat.le_refl _,by rw [rot_self];exact ho,Lib.hid (fun h=>absurd h (by omega)),hk⟩
      case round =>
        clear ho hk;obtain ⟨j,rfl,hja,hji,ho,HJ,hk⟩:=hrel;obtain ⟨F,hF⟩ : ∃ F,rot f' j i (i + 1) = F:=⟨_,rfl⟩
        rw [hF] at ho;have HF:=Lib.hid hF;have Hfin:=Lib.hid (show (a < j → ¬ markLt (f' i) (f' (j - 1))) → Sw a b f F ∧ Srt markLt a i2 F from fun h2=>by
          rw [← hF,← Hi2.out];exact ⟨HH.out.1.trans (Sw.rot f' hja (by omega) hji (by omega)),down_srt sordMark HH.out.2 hja hji HJ.out h2⟩)
        clear hF;by_cases hgt : a < j
        · obtain ⟨q,hq⟩ : ∃ q,j - 1 = q:=⟨_,rfl⟩
          have hq1 : ((j : Int) - 1) = (q : Int):=by omega
          have hw3 : IntKind.i64.wrap (q : Int) = (q : Int):=IntWalk.i64_in _ (by omega);have hjn : j < n:=by omega
          have hqn : q < n:=by omega
          have Hq:=Lib.hid hq;have c2:=dorder_any (F j) (F q) wr.drew;have hd:=ordI_neg (F j) (F q);obtain ⟨t,ht⟩ : ∃ t,markLtB (F j) (F q) = t:=⟨_,rfl⟩
          rw [ht] at hd;obtain ⟨O,hO⟩ : ∃ O,ordI (F j) (F q) = O:=⟨_,rfl⟩
          rw [hO] at hd c2;have Ht:=Lib.hid (show markLtB (f' i) (f' q) = t by rw [← ht,← HF.out,down_at f' j i hji,down_below f' j i q (by omega)]);have hor : -1 ≤ O ∧ O ≤ 1:=by rw [← hO];exact ordI_range _ _
          clear ht hO hq;go_upto_region 4 with fail
          refine wp_region_lex (Bel wr) false (by kernel_rfl) (by kernel_rfl) (by kernel_rfl) (bel_drew wr) ?_;have hne:=bel_some wr;have hS:=bel_drew wr;have b1:=sub_row (ho.row hjn);have b2:=sub_row (ho.row hqn);repeat (refine wpLx_loose ?_ ?_;(focus (simp only [chainOp];done));intro K hK;go_simp;refine hK _ ?_;clear hK K)
          refine wpLx_chain ?_ ?_ ?_;(focus (exact hS));(focus (simp only [chainOp];done));intro K hK;go_simp;refine (c2).mono ?_;rintro e w' ⟨rfl,hb⟩;replace hS:=bel_next hS hb;refine ⟨_,rfl,hS,hK _ _ ?_⟩;clear hK K hb;repeat (refine wpLx_loose ?_ ?_;(focus (simp only [chainOp];done));intro K hK;go_simp;refine hK _ ?_;clear hK K)
          refine wpLx_nil ?_;intro hS;have hS' : Below wr.heap.size wr w':=hS;have ho' : OwnF w' B g n cap F:=Own.below ho hS';have hk' : Keep [g] w w':=Keep.trans hk (Keep.of_below hS') (by simp);clear b1 b2 hne hS c2 hS' ho hk;cases t with
          | true =>
            go_upto_region 6 with fail
            have hk:=hk';have ho:=ho';have hod : OwnF w'.drew B g n cap F:=Own.below ho ((Below.refl _ _).drew);refine LC.wp_region_tree (.loose 0 (.loose 1 (.loose 2 (.loose 3 (.loose 4 (.loose 5 (.loose 6 (.loose 7 (.loose 8 (.loose 10 (.loose 11 (.loose 12 (.two 9 (.one 13 (.loose 14 (.one 15 (.loose 16 (.one 17 .done))))) 13 (.one 9 (.loose 14 (.one 15 (.loose 16 (.one 17 .done)))))))))))))))))) (Kp ([g]) w') (LC.cvOf 41) (by kernel_rfl) (by kernel_rfl) (by kernel_rfl) (by kernel_rfl) (kp_drew ([g]) w') ?_;have hne:=kp_some ([g]) w';have hS:=kp_drew ([g]) w';obtain ⟨W,hW⟩ : ∃ W,w'.drew = W:=⟨_,rfl⟩
            rw [hW] at hod hS ⊢;have hrx:=hod.row hjn;have hry:=hod.row hqn;clear hW hk' ho';repeat (refine LC.wpTx_loose rfl ?_ ?_;(focus (first | (simp only [LC.chainOp,LC.cvOf];done) | rfl));intro K hK;go_simp;refine hK _ ?_;clear hK K)
            refine LC.wpTx_two ?_ ?_
            · skip;refine LC.wpTx_one ?_ rfl ?_ ?_;(focus (exact hS));focus (first | (simp only [LC.chainOp,LC.cvOf];done) | rfl)
              intro K hK;go_simp;refine hK _ _ ?_;clear hK K;refine LC.wpTx_one ?_ rfl ?_ ?_;(focus (exact hS));focus (first | (simp only [LC.chainOp,LC.cvOf];done) | rfl)
              intro K hK;go_simp;refine hK _ _ ?_;clear hK K;repeat (refine LC.wpTx_loose rfl ?_ ?_;(focus (first | (simp only [LC.chainOp,LC.cvOf];done) | rfl));intro K hK;go_simp;refine hK _ ?_;clear hK K)
              refine LC.wpTx_one ?_ rfl ?_ ?_;(focus (exact hS));focus (first | (simp only [LC.chainOp,LC.cvOf];done) | rfl)
              intro K hK;go_simp;obtain ⟨w2,hst2,ho2,hk2⟩:=hod.store hjn (F q);rw [hst2];go_simp;have hS2 : Kp [g] w' w2:=Keep.trans hS hk2 (by simp);refine ⟨hS2,hK _ _ ?_⟩;clear hK K hS hk2 hst2;have hS:=hS2;clear hS2;repeat (refine LC.wpTx_loose rfl ?_ ?_;(focus (first | (simp only [LC.chainOp,LC.cvOf];done) | rfl));intro K hK;go_simp;refine hK _ ?_;clear hK K)
              refine LC.wpTx_one ?_ rfl ?_ ?_;(focus (exact hS));focus (first | (simp only [LC.chainOp,LC.cvOf];done) | rfl)
              intro K hK;go_simp;obtain ⟨w3,hst3,ho3,hk3⟩:=ho2.store hqn (F j);rw [hst3];go_simp;have hS2 : Kp [g] w' w3:=Keep.trans hS hk3 (by simp);refine ⟨hS2,hK _ _ ?_⟩;clear hK K hS hk3 hst3;have hS:=hS2;clear hS2;refine LC.wpTx_done ?_;intro hS;rw [swp_two F j q] at ho3;have hkz : Keep [g] w w3:=Keep.trans hk hS (by simp);clear hS hne hk ho2 hod ho hrx hry;(go_wp2_with fail);go_roundw
              case rel =>
                have hsw : swp F j q = rot f' q i (i + 1):=by
                  rw [← HF.out,← down_step f' q i (by omega)];rw [show q + 1 = j by omega]
                rw [hsw] at ho3;exact ⟨q,by go_num,by omega,by omega,ho3,Lib.hid (fun _=>Ht.out),hkz⟩
              case measure=>simp [intOf];omega
            · skip;refine LC.wpTx_one ?_ rfl ?_ ?_;(focus (exact hS));focus (first | (simp only [LC.chainOp,LC.cvOf];done) | rfl)
              intro K hK;go_simp;refine hK _ _ ?_;clear hK K;refine LC.wpTx_one ?_ rfl ?_ ?_;(focus (exact hS));focus (first | (simp only [LC.chainOp,LC.cvOf];done) | rfl)
              intro K hK;go_simp;refine hK _ _ ?_;clear hK K;repeat (refine LC.wpTx_loose rfl ?_ ?_;(focus (first | (simp only [LC.chainOp,LC.cvOf];done) | rfl));intro K hK;go_simp;refine hK _ ?_;clear hK K)
              refine LC.wpTx_one ?_ rfl ?_ ?_;(focus (exact hS));focus (first | (simp only [LC.chainOp,LC.cvOf];done) | rfl)
              intro K hK;go_simp;obtain ⟨w2,hst2,ho2,hk2⟩:=hod.store hjn (F q);rw [hst2];go_simp;have hS2 : Kp [g] w' w2:=Keep.trans hS hk2 (by simp);refine ⟨hS2,hK _ _ ?_⟩;clear hK K hS hk2 hst2;have hS:=hS2;clear hS2;repeat (refine LC.wpTx_loose rfl ?_ ?_;(focus (first | (simp only [LC.chainOp,LC.cvOf];done) | rfl));intro K hK;go_simp;refine hK _ ?_;clear hK K)
              refine LC.wpTx_one ?_ rfl ?_ ?_;(focus (exact hS));focus (first | (simp only [LC.chainOp,LC.cvOf];done) | rfl)
              intro K hK;go_simp;obtain ⟨w3,hst3,ho3,hk3⟩:=ho2.store hqn (F j);rw [hst3];go_simp;have hS2 : Kp [g] w' w3:=Keep.trans hS hk3 (by simp);refine ⟨hS2,hK _ _ ?_⟩;clear hK K hS hk3 hst3;have hS:=hS2;clear hS2;refine LC.wpTx_done ?_;intro hS;rw [swp_two F j q] at ho3;have hkz : Keep [g] w w3:=Keep.trans hk hS (by simp);clear hS hne hk ho2 hod ho hrx hry;(go_wp2_with fail);go_roundw
              case rel =>
                have hsw : swp F j q = rot f' q i (i + 1):=by
                  rw [← HF.out,← down_step f' q i (by omega)];rw [show q + 1 = j by omega]
                rw [hsw] at ho3;exact ⟨q,by go_num,by omega,by omega,ho3,Lib.hid (fun _=>Ht.out),hkz⟩
              case measure=>simp [intOf];omega
          | false =>
            (go_wp2_with fail);go_roundw
            case rel =>
              refine ⟨i2,F,by go_num,by omega,.inl (by omega),ho',Lib.hid (Hfin.out fun _=>?_),hk'⟩;unfold markLt;rw [Hq.out,Ht.out];simp
            case measure=>simp [intOf];omega
        · go_upto_region 4 with fail
          refine wp_region_lex (Bel wr) false (by kernel_rfl) (by kernel_rfl) (by kernel_rfl) (bel_drew wr) ?_;have hne:=bel_some wr;have hS:=bel_drew wr;repeat (refine wpLx_loose ?_ ?_;(focus (simp only [chainOp];done));intro K hK;go_simp;refine hK _ ?_;clear hK K)
          refine wpLx_chain ?_ ?_ ?_;(focus (exact hS));(focus (simp only [chainOp];done));intro K hK;go_simp;refine hK _ _ ?_;clear hK K;repeat (refine wpLx_loose ?_ ?_;(focus (simp only [chainOp];done));intro K hK;go_simp;refine hK _ ?_;clear hK K)
          refine wpLx_nil ?_;intro hS;have hS' : Below wr.heap.size wr wr.drew:=hS;have ho' : OwnF wr.drew B g n cap F:=Own.below ho hS';have hk' : Keep [g] w wr.drew:=Keep.trans hk (Keep.of_below hS') (by simp);clear hne hS hS' ho hk;(go_wp2_with fail);go_roundw
          case rel=>exact ⟨i2,F,by go_num,by omega,.inl (by omega),ho',Lib.hid (Hfin.out fun h=>absurd h hgt),hk'⟩
          case measure=>simp [intOf];omega
    · (go_wp2_with fail);refine bodyPost_end (results_none rfl _ _ _) rfl ?_;exact ⟨rfl,⟨f',ho,HH.out.1,HH.out.2.sub (Nat.le_refl _) (by omega)⟩,hk⟩
end
section
open Go.RowKit Stb
set_option maxRecDepth 100000 in
set_option maxHeartbeats 4000000 in
theorem symL_any (w : World) (B g n cap : Nat) (f : Nat → MarkV) (a b : Nat) (hown : OwnF w B g n cap f) (hab : a + 1 < b) (hb : b ≤ n) (hn : n ≤ 1000000) (hsr : Srt markLt (a + 1) b f) :
    Calls Tryz.prog 192 #[.slice (some ⟨g,0,none⟩) n cap,.int .i64 a,.int .i64 (a + 1 : Nat),.int .i64 b,.func (.func 52) #[] #[]] w fun e w'=>e = .returned (.tuple #[]) ∧ (∃ f',OwnF w' B g n cap f' ∧ Sw a b f f' ∧ Srt markLt a b f') ∧ Keep [g] w w':=by
  go_enter Tryz.func192,Tryz.ntmps192
  obtain ⟨m,hm⟩ : ∃ m,a + 1 = m:=⟨_,rfl⟩
  rw [hm];have hs1 : ((m : Int) - (a : Int)) = 1:=by omega
  have Hsr:=Lib.hid hsr;have Hm:=Lib.hid hm;clear hsr;(go_wp2_with fail);clear hs1;go_loopw [10,11] (fun iv jv wr=>∃ (i j : Nat),iv = .int .i64 i ∧ jv = .int .i64 j ∧ m ≤ i ∧ i ≤ j ∧ j ≤ b ∧ OwnF wr B g n cap f ∧ Hid ((m < i → markLt (f (i - 1)) (f a)) ∧ (j < b → ¬ markLt (f j) (f a))) ∧ Keep [g] w wr) (fun iv jv _=>(intOf jv).toNat - (intOf iv).toNat)
  case atStart =>
    exact ⟨m,b,rfl,rfl,Nat.le_refl _,by omega,Nat.le_refl _,hown,Lib.hid ⟨fun h=>absurd h (by omega),fun h=>absurd h (by omega)⟩,Keep.refl _ _⟩
  case round =>
    obtain ⟨i,j,rfl,rfl,hi1,hij,hjb,ho,HH,hk⟩:=hrel;by_cases hlt : i < j
    · obtain ⟨h,hh⟩ : ∃ h,(i + j) / 2 = h:=⟨_,rfl⟩
      have hh1 : ((i : Int) + (j : Int)) / 2 = (h : Int):=by omega
      have hih : i ≤ h:=by omega
      have hhj : h < j:=by omega
      have hhn : h < n:=by omega
      have han : a < n:=by omega
      obtain ⟨h2,hh2⟩ : ∃ h2,h + 1 = h2:=⟨_,rfl⟩
      have hh3 : ((h : Int) + 1) = (h2 : Int):=by omega
      have hw3 : IntKind.i64.wrap (h2 : Int) = (h2 : Int):=IntWalk.i64_in _ (by omega);have Hh2:=Lib.hid hh2;have c2:=dorder_any (f h) (f a) wr.drew;have hd:=ordI_neg (f h) (f a);obtain ⟨t,ht⟩ : ∃ t,markLtB (f h) (f a) = t:=⟨_,rfl⟩
      rw [ht] at hd;obtain ⟨O,hO⟩ : ∃ O,ordI (f h) (f a) = O:=⟨_,rfl⟩
      rw [hO] at hd c2;have Ht:=Lib.hid ht;have hor : -1 ≤ O ∧ O ≤ 1:=by rw [← hO];exact ordI_range _ _
      clear ht hO hh;go_upto_region 5 with fail
      refine wp_region_lex (Bel wr) false (by kernel_rfl) (by kernel_rfl) (by kernel_rfl) (bel_drew wr) ?_;have hne:=bel_some wr;have hS:=bel_drew wr;have b1:=sub_row (ho.row hhn);have b2:=sub_row (ho.row han);repeat (refine wpLx_loose ?_ ?_;(focus (simp only [chainOp];done));intro K hK;go_simp;refine hK _ ?_;clear hK K)
      refine wpLx_chain ?_ ?_ ?_;(focus (exact hS));(focus (simp only [chainOp];done));intro K hK;go_simp;refine (c2).mono ?_;rintro e w' ⟨rfl,hb⟩;replace hS:=bel_next hS hb;refine ⟨_,rfl,hS,hK _ _ ?_⟩;clear hK K hb;repeat (refine wpLx_loose ?_ ?_;(focus (simp only [chainOp];done));intro K hK;go_simp;refine hK _ ?_;clear hK K)
      refine wpLx_nil ?_;intro hS;have hS' : Below wr.heap.size wr w':=hS;have ho' : OwnF w' B g n cap f:=Own.below ho hS';have hk' : Keep [g] w w':=Keep.trans hk (Keep.of_below hS') (by simp);clear b1 b2 hne hS c2 hS' ho hk;cases t with
      | true =>
        (go_wp2_with fail);go_roundw
        case rel =>
          refine ⟨h2,j,by go_num,by go_num,by omega,by omega,hjb,ho',Lib.hid ⟨fun _=>?_,HH.out.2⟩,hk'⟩;rw [← Hh2.out];exact Ht.out
        case measure=>simp [intOf];omega
      | false =>
        (go_wp2_with fail);go_roundw
        case rel =>
          refine ⟨i,h,by go_num,by go_num,hi1,hih,by omega,ho',Lib.hid ⟨HH.out.1,fun _=>?_⟩,hk'⟩;unfold markLt;rw [Ht.out];simp
        case measure=>simp [intOf];omega
    · obtain rfl : i = j:=by omega
      obtain ⟨e1,he1⟩ : ∃ e1,i - 1 = e1:=⟨_,rfl⟩
      have he2 : ((i : Int) - 1) = (e1 : Int):=by omega
      have hw1 : IntKind.i64.wrap (e1 : Int) = (e1 : Int):=IntWalk.i64_in _ (by omega);have Hfin:=Lib.hid (show Sw a b f (rot f a m i) ∧ Srt markLt a b (rot f a m i) from by
        rw [← Hm.out];exact ⟨Sw.rot f (Nat.le_refl _) hjb (by omega) (by omega),up_srt sordMark Hsr.out (by omega) hjb (fun h=>HH.out.1 (by omega)) HH.out.2⟩)
      have He1:=Lib.hid he1;(go_wp2_with fail);go_loopw [13] (fun kv wj=>∃ (k : Nat),kv = .int .i64 k ∧ a ≤ k ∧ k ≤ e1 ∧ OwnF wj B g n cap (rot f a m (k + 1)) ∧ Keep [g] w wj) (fun kv _=>e1 - (intOf kv).toNat)
      case atStart =>
        exact ⟨a,rfl,Nat.le_refl _,by omega,by rw [← Hm.out,rot_one];exact ho,hk⟩
      case round =>
        clear ho hk;obtain ⟨k,rfl,hka,hke,ho,hk⟩:=hrel;by_cases hlt2 : k < e1
        · obtain ⟨y,hy⟩ : ∃ y,k + 1 = y:=⟨_,rfl⟩
          have hy1 : ((k : Int) + 1) = (y : Int):=by omega
          have hw4 : IntKind.i64.wrap (y : Int) = (y : Int):=IntWalk.i64_in _ (by omega);have hkn : k < n:=by omega
          have hyn : y < n:=by omega
          obtain ⟨F,hF⟩ : ∃ F,rot f a m (k + 1) = F:=⟨_,rfl⟩
          rw [hF] at ho;have hsw : swp F k y = rot f a m (y + 1):=by rw [← hF,← hy,← Hm.out];exact up_step f a k hka
          have Hsw:=Lib.hid hsw;have Hy:=Lib.hid hy;clear hF hsw hy;go_upto_region 11 with fail
          have hod : OwnF wr.drew B g n cap F:=Own.below ho ((Below.refl _ _).drew);refine LC.wp_region_tree (.loose 0 (.loose 1 (.loose 2 (.loose 3 (.loose 4 (.loose 5 (.loose 6 (.loose 7 (.loose 8 (.loose 10 (.loose 11 (.loose 12 (.two 9 (.one 13 (.loose 14 (.one 15 (.loose 16 (.one 17 .done))))) 13 (.one 9 (.loose 14 (.one 15 (.loose 16 (.one 17 .done)))))))))))))))))) (Kp ([g]) wr) (LC.cvOf 41) (by kernel_rfl) (by kernel_rfl) (by kernel_rfl) (by kernel_rfl) (kp_drew ([g]) wr) ?_;have hne:=kp_some ([g]) wr;have hS:=kp_drew ([g]) wr;obtain ⟨W,hW⟩ : ∃ W,wr.drew = W:=⟨_,rfl⟩
          rw [hW] at hod hS ⊢;have hrx:=hod.row hkn;have hry:=hod.row hyn;clear hW;repeat (refine LC.wpTx_loose rfl ?_ ?_;(focus (first | (simp only [LC.chainOp,LC.cvOf];done) | rfl));intro K hK;go_simp;refine hK _ ?_;clear hK K)
          refine LC.wpTx_two ?_ ?_
          · skip;refine LC.wpTx_one ?_ rfl ?_ ?_;(focus (exact hS));focus (first | (simp only [LC.chainOp,LC.cvOf];done) | rfl)
            intro K hK;go_simp;refine hK _ _ ?_;clear hK K;refine LC.wpTx_one ?_ rfl ?_ ?_;(focus (exact hS));focus (first | (simp only [LC.chainOp,LC.cvOf];done) | rfl)
            intro K hK;go_simp;refine hK _ _ ?_;clear hK K;repeat (refine LC.wpTx_loose rfl ?_ ?_;(focus (first | (simp only [LC.chainOp,LC.cvOf];done) | rfl));intro K hK;go_simp;refine hK _ ?_;clear hK K)
            refine LC.wpTx_one ?_ rfl ?_ ?_;(focus (exact hS));focus (first | (simp only [LC.chainOp,LC.cvOf];done) | rfl)
            intro K hK;go_simp;obtain ⟨w2,hst2,ho2,hk2⟩:=hod.store hkn (F y);rw [hst2];go_simp;have hS2 : Kp [g] wr w2:=Keep.trans hS hk2 (by simp);refine ⟨hS2,hK _ _ ?_⟩;clear hK K hS hk2 hst2;have hS:=hS2;clear hS2;repeat (refine LC.wpTx_loose rfl ?_ ?_;(focus (first | (simp only [LC.chainOp,LC.cvOf];done) | rfl));intro K hK;go_simp;refine hK _ ?_;clear hK K)
            refine LC.wpTx_one ?_ rfl ?_ ?_;(focus (exact hS));focus (first | (simp only [LC.chainOp,LC.cvOf];done) | rfl)
            intro K hK;go_simp;obtain ⟨w3,hst3,ho3,hk3⟩:=ho2.store hyn (F k);rw [hst3];go_simp;have hS2 : Kp [g] wr w3:=Keep.trans hS hk3 (by simp);refine ⟨hS2,hK _ _ ?_⟩;clear hK K hS hk3 hst3;have hS:=hS2;clear hS2;refine LC.wpTx_done ?_;intro hS;rw [swp_two F k y] at ho3;have hkz : Keep [g] w w3:=Keep.trans hk hS (by simp);clear hS hne hk ho2 hod ho hrx hry;rw [Hsw.out] at ho3;(go_wp2_with fail);go_roundw
            case rel=>exact ⟨y,by go_num,by have:=Hy.out;omega,by have:=Hy.out;omega,ho3,hkz⟩
            case measure=>have:=Hy.out;simp [intOf];omega
          · skip;refine LC.wpTx_one ?_ rfl ?_ ?_;(focus (exact hS));focus (first | (simp only [LC.chainOp,LC.cvOf];done) | rfl)
            intro K hK;go_simp;refine hK _ _ ?_;clear hK K;refine LC.wpTx_one ?_ rfl ?_ ?_;(focus (exact hS));focus (first | (simp only [LC.chainOp,LC.cvOf];done) | rfl)
            intro K hK;go_simp;refine hK _ _ ?_;clear hK K;repeat (refine LC.wpTx_loose rfl ?_ ?_;(focus (first | (simp only [LC.chainOp,LC.cvOf];done) | rfl));intro K hK;go_simp;refine hK _ ?_;clear hK K)
            refine LC.wpTx_one ?_ rfl ?_ ?_;(focus (exact hS));focus (first | (simp only [LC.chainOp,LC.cvOf];done) | rfl)
            intro K hK;go_simp;obtain ⟨w2,hst2,ho2,hk2⟩:=hod.store hkn (F y);rw [hst2];go_simp;have hS2 : Kp [g] wr w2:=Keep.trans hS hk2 (by simp);refine ⟨hS2,hK _ _ ?_⟩;clear hK K hS hk2 hst2;have hS:=hS2;clear hS2;repeat (refine LC.wpTx_loose rfl ?_ ?_;(focus (first | (simp only [LC.chainOp,LC.cvOf];done) | rfl));intro K hK;go_simp;refine hK _ ?_;clear hK K)
            refine LC.wpTx_one ?_ rfl ?_ ?_;(focus (exact hS));focus (first | (simp only [LC.chainOp,LC.cvOf];done) | rfl)
            intro K hK;go_simp;obtain ⟨w3,hst3,ho3,hk3⟩:=ho2.store hyn (F k);rw [hst3];go_simp;have hS2 : Kp [g] wr w3:=Keep.trans hS hk3 (by simp);refine ⟨hS2,hK _ _ ?_⟩;clear hK K hS hk3 hst3;have hS:=hS2;clear hS2;refine LC.wpTx_done ?_;intro hS;rw [swp_two F k y] at ho3;have hkz : Keep [g] w w3:=Keep.trans hk hS (by simp);clear hS hne hk ho2 hod ho hrx hry;rw [Hsw.out] at ho3;(go_wp2_with fail);go_roundw
            case rel=>exact ⟨y,by go_num,by have:=Hy.out;omega,by have:=Hy.out;omega,ho3,hkz⟩
            case measure=>have:=Hy.out;simp [intOf];omega
        · obtain rfl : k = e1:=by omega
          (go_wp2_with fail);refine bodyPost_ret (results_none rfl _ _ _) rfl ?_;have hke1 : k + 1 = i:=by omega
          rw [hke1] at ho;exact ⟨rfl,⟨_,ho,Hfin.out.1,Hfin.out.2⟩,hk⟩
end
section
open Go.RowKit Stb
set_option maxRecDepth 100000 in
set_option maxHeartbeats 4000000 in
theorem symR_any (w : World) (B g n cap : Nat) (f : Nat → MarkV) (a m : Nat) (hown : OwnF w B g n cap f) (ham : a + 1 < m) (hb : m + 1 ≤ n) (hn : n ≤ 1000000) (hsr : Srt markLt a m f) :
    Calls Tryz.prog 192 #[.slice (some ⟨g,0,none⟩) n cap,.int .i64 a,.int .i64 m,.int .i64 (m + 1 : Nat),.func (.func 52) #[] #[]] w fun e w'=>e = .returned (.tuple #[]) ∧ (∃ f',OwnF w' B g n cap f' ∧ Sw a (m + 1) f f' ∧ Srt markLt a (m + 1) f') ∧ Keep [g] w w':=by
  go_enter Tryz.func192,Tryz.ntmps192
  obtain ⟨b,hm⟩ : ∃ b,m + 1 = b:=⟨_,rfl⟩
  obtain ⟨d,hdd⟩ : ∃ d,m - a = d:=⟨_,rfl⟩
  rw [hm];have hs0 : ((m : Int) - (a : Int)) = (d : Int):=by omega
  have hw0 : IntKind.i64.wrap (d : Int) = (d : Int):=IntWalk.i64_in _ (by omega);have hs1 : ((b : Int) - (m : Int)) = 1:=by omega
  have hd1 : d ≠ 1:=by omega
  have hd2 : ((d : Int) == 1) = false:=by simp;omega
  have Hsr:=Lib.hid hsr;have Hm:=Lib.hid hm;clear hsr;(go_wp2_with fail);clear hs1 hs0 hw0 hd2;go_loopw [14,15] (fun iv jv wr=>∃ (i j : Nat),iv = .int .i64 i ∧ jv = .int .i64 j ∧ a ≤ i ∧ i ≤ j ∧ j ≤ m ∧ OwnF wr B g n cap f ∧ Hid ((a < i → ¬ markLt (f m) (f (i - 1))) ∧ (j < m → markLt (f m) (f j))) ∧ Keep [g] w wr) (fun iv jv _=>(intOf jv).toNat - (intOf iv).toNat)
  case atStart =>
    exact ⟨a,m,rfl,rfl,Nat.le_refl _,by omega,Nat.le_refl _,hown,Lib.hid ⟨fun h=>absurd h (by omega),fun h=>absurd h (by omega)⟩,Keep.refl _ _⟩
  case round =>
    obtain ⟨i,j,rfl,rfl,hi1,hij,hjb,ho,HH,hk⟩:=hrel;by_cases hlt : i < j
    · obtain ⟨h,hh⟩ : ∃ h,(i + j) / 2 = h:=⟨_,rfl⟩
      have hh1 : ((i : Int) + (j : Int)) / 2 = (h : Int):=by omega
      have hih : i ≤ h:=by omega
      have hhj : h < j:=by omega
      have hhn : h < n:=by omega
      have hmn : m < n:=by omega
      obtain ⟨h2,hh2⟩ : ∃ h2,h + 1 = h2:=⟨_,rfl⟩
      have hh3 : ((h : Int) + 1) = (h2 : Int):=by omega
      have hw3 : IntKind.i64.wrap (h2 : Int) = (h2 : Int):=IntWalk.i64_in _ (by omega);have Hh2:=Lib.hid hh2;have c2:=dorder_any (f m) (f h) wr.drew;have hd:=ordI_neg (f m) (f h);obtain ⟨t,ht⟩ : ∃ t,markLtB (f m) (f h) = t:=⟨_,rfl⟩
      rw [ht] at hd;obtain ⟨O,hO⟩ : ∃ O,ordI (f m) (f h) = O:=⟨_,rfl⟩
      rw [hO] at hd c2;have Ht:=Lib.hid ht;have hor : -1 ≤ O ∧ O ≤ 1:=by rw [← hO];exact ordI_range _ _
      clear ht hO hh;go_upto_region 17 with fail
      refine wp_region_lex (Bel wr) false (by kernel_rfl) (by kernel_rfl) (by kernel_rfl) (bel_drew wr) ?_;have hne:=bel_some wr;have hS:=bel_drew wr;have b1:=sub_row (ho.row hhn);have b2:=sub_row (ho.row hmn);repeat (refine wpLx_loose ?_ ?_;(focus (simp only [chainOp];done));intro K hK;go_simp;refine hK _ ?_;clear hK K)
      refine wpLx_chain ?_ ?_ ?_;(focus (exact hS));(focus (simp only [chainOp];done));intro K hK;go_simp;refine (c2).mono ?_;rintro e w' ⟨rfl,hb⟩;replace hS:=bel_next hS hb;refine ⟨_,rfl,hS,hK _ _ ?_⟩;clear hK K hb;repeat (refine wpLx_loose ?_ ?_;(focus (simp only [chainOp];done));intro K hK;go_simp;refine hK _ ?_;clear hK K)
      refine wpLx_nil ?_;intro hS;have hS' : Below wr.heap.size wr w':=hS;have ho' : OwnF w' B g n cap f:=Own.below ho hS';have hk' : Keep [g] w w':=Keep.trans hk (Keep.of_below hS') (by simp);clear b1 b2 hne hS c2 hS' ho hk;cases t with
      | false =>
        (go_wp2_with fail);go_roundw
        case rel =>
          refine ⟨h2,j,by go_num,by go_num,by omega,by omega,hjb,ho',Lib.hid ⟨fun _=>?_,HH.out.2⟩,hk'⟩;rw [← Hh2.out];unfold markLt;rw [Nat.add_sub_cancel,Ht.out];simp
        case measure=>simp [intOf];omega
      | true =>
        (go_wp2_with fail);go_roundw
        case rel=>exact ⟨i,h,by go_num,by go_num,hi1,hih,by omega,ho',Lib.hid ⟨HH.out.1,fun _=>Ht.out⟩,hk'⟩
        case measure=>simp [intOf];omega
    · obtain rfl : i = j:=by omega
      have Hfin:=Lib.hid (show Sw a b f (rot f i m b) ∧ Srt markLt a b (rot f i m b) from by
        rw [← Hm.out];exact ⟨Sw.rot f hi1 (Nat.le_refl _) hjb (by omega),down_srt sordMark Hsr.out hi1 hjb HH.out.2 HH.out.1⟩)
      (go_wp2_with fail);go_loopw [17] (fun kv wj=>∃ (k : Nat),kv = .int .i64 k ∧ i ≤ k ∧ k ≤ m ∧ OwnF wj B g n cap (rot f k m b) ∧ Keep [g] w wj) (fun kv _=>(intOf kv).toNat)
      case atStart =>
        exact ⟨m,rfl,hjb,Nat.le_refl _,by rw [← Hm.out,rot_self];exact ho,hk⟩
      case round =>
        clear ho hk;obtain ⟨k,rfl,hki,hkm,ho,hk⟩:=hrel;by_cases hlt2 : i < k
        · obtain ⟨y,hy⟩ : ∃ y,k - 1 = y:=⟨_,rfl⟩
          have hy1 : ((k : Int) - 1) = (y : Int):=by omega
          have hw4 : IntKind.i64.wrap (y : Int) = (y : Int):=IntWalk.i64_in _ (by omega);have hkn : k < n:=by omega
          have hyn : y < n:=by omega
          obtain ⟨F,hF⟩ : ∃ F,rot f k m b = F:=⟨_,rfl⟩
          rw [hF] at ho;have hsw : swp F k y = rot f y m b:=by
            have h9:=down_step f y m (by omega);rw [show y + 1 = k by omega,Hm.out] at h9;rw [← hF];exact h9
          have Hsw:=Lib.hid hsw;have Hy:=Lib.hid (show y + 1 = k ∧ i ≤ y by omega);clear hF hsw hy;go_upto_region 23 with fail
          have hod : OwnF wr.drew B g n cap F:=Own.below ho ((Below.refl _ _).drew);refine LC.wp_region_tree (.loose 0 (.loose 1 (.loose 2 (.loose 3 (.loose 4 (.loose 5 (.loose 6 (.loose 7 (.loose 8 (.loose 10 (.loose 11 (.loose 12 (.two 9 (.one 13 (.loose 14 (.one 15 (.loose 16 (.one 17 .done))))) 13 (.one 9 (.loose 14 (.one 15 (.loose 16 (.one 17 .done)))))))))))))))))) (Kp ([g]) wr) (LC.cvOf 41) (by kernel_rfl) (by kernel_rfl) (by kernel_rfl) (by kernel_rfl) (kp_drew ([g]) wr) ?_;have hne:=kp_some ([g]) wr;have hS:=kp_drew ([g]) wr;obtain ⟨W,hW⟩ : ∃ W,wr.drew = W:=⟨_,rfl⟩
          rw [hW] at hod hS ⊢;have hrx:=hod.row hkn;have hry:=hod.row hyn;clear hW;repeat (refine LC.wpTx_loose rfl ?_ ?_;(focus (first | (simp only [LC.chainOp,LC.cvOf];done) | rfl));intro K hK;go_simp;refine hK _ ?_;clear hK K)
          refine LC.wpTx_two ?_ ?_
          · skip;refine LC.wpTx_one ?_ rfl ?_ ?_;(focus (exact hS));focus (first | (simp only [LC.chainOp,LC.cvOf];done) | rfl)
            intro K hK;go_simp;refine hK _ _ ?_;clear hK K;refine LC.wpTx_one ?_ rfl ?_ ?_;(focus (exact hS));focus (first | (simp only [LC.chainOp,LC.cvOf];done) | rfl)
            intro K hK;go_simp;refine hK _ _ ?_;clear hK K;repeat (refine LC.wpTx_loose rfl ?_ ?_;(focus (first | (simp only [LC.chainOp,LC.cvOf];done) | rfl));intro K hK;go_simp;refine hK _ ?_;clear hK K)
            refine LC.wpTx_one ?_ rfl ?_ ?_;(focus (exact hS));focus (first | (simp only [LC.chainOp,LC.cvOf];done) | rfl)
            intro K hK;go_simp;obtain ⟨w2,hst2,ho2,hk2⟩:=hod.store hkn (F y);rw [hst2];go_simp;have hS2 : Kp [g] wr w2:=Keep.trans hS hk2 (by simp);refine ⟨hS2,hK _ _ ?_⟩;clear hK K hS hk2 hst2;have hS:=hS2;clear hS2;repeat (refine LC.wpTx_loose rfl ?_ ?_;(focus (first | (simp only [LC.chainOp,LC.cvOf];done) | rfl));intro K hK;go_simp;refine hK _ ?_;clear hK K)
            refine LC.wpTx_one ?_ rfl ?_ ?_;(focus (exact hS));focus (first | (simp only [LC.chainOp,LC.cvOf];done) | rfl)
            intro K hK;go_simp;obtain ⟨w3,hst3,ho3,hk3⟩:=ho2.store hyn (F k);rw [hst3];go_simp;have hS2 : Kp [g] wr w3:=Keep.trans hS hk3 (by simp);refine ⟨hS2,hK _ _ ?_⟩;clear hK K hS hk3 hst3;have hS:=hS2;clear hS2;refine LC.wpTx_done ?_;intro hS;rw [swp_two F k y] at ho3;have hkz : Keep [g] w w3:=Keep.trans hk hS (by simp);clear hS hne hk ho2 hod ho hrx hry;rw [Hsw.out] at ho3;(go_wp2_with fail);go_roundw
            case rel=>exact ⟨y,by go_num,Hy.out.2,by have:=Hy.out;omega,ho3,hkz⟩
            case measure=>have:=Hy.out;simp [intOf];omega
          · skip;refine LC.wpTx_one ?_ rfl ?_ ?_;(focus (exact hS));focus (first | (simp only [LC.chainOp,LC.cvOf];done) | rfl)
            intro K hK;go_simp;refine hK _ _ ?_;clear hK K;refine LC.wpTx_one ?_ rfl ?_ ?_;(focus (exact hS));focus (first | (simp only [LC.chainOp,LC.cvOf];done) | rfl)
            intro K hK;go_simp;refine hK _ _ ?_;clear hK K;repeat (refine LC.wpTx_loose rfl ?_ ?_;(focus (first | (simp only [LC.chainOp,LC.cvOf];done) | rfl));intro K hK;go_simp;refine hK _ ?_;clear hK K)
            refine LC.wpTx_one ?_ rfl ?_ ?_;(focus (exact hS));focus (first | (simp only [LC.chainOp,LC.cvOf];done) | rfl)
            intro K hK;go_simp;obtain ⟨w2,hst2,ho2,hk2⟩:=hod.store hkn (F y);rw [hst2];go_simp;have hS2 : Kp [g] wr w2:=Keep.trans hS hk2 (by simp);refine ⟨hS2,hK _ _ ?_⟩;clear hK K hS hk2 hst2;have hS:=hS2;clear hS2;repeat (refine LC.wpTx_loose rfl ?_ ?_;(focus (first | (simp only [LC.chainOp,LC.cvOf];done) | rfl));intro K hK;go_simp;refine hK _ ?_;clear hK K)
            refine LC.wpTx_one ?_ rfl ?_ ?_;(focus (exact hS));focus (first | (simp only [LC.chainOp,LC.cvOf];done) | rfl)
            intro K hK;go_simp;obtain ⟨w3,hst3,ho3,hk3⟩:=ho2.store hyn (F k);rw [hst3];go_simp;have hS2 : Kp [g] wr w3:=Keep.trans hS hk3 (by simp);refine ⟨hS2,hK _ _ ?_⟩;clear hK K hS hk3 hst3;have hS:=hS2;clear hS2;refine LC.wpTx_done ?_;intro hS;rw [swp_two F k y] at ho3;have hkz : Keep [g] w w3:=Keep.trans hk hS (by simp);clear hS hne hk ho2 hod ho hrx hry;rw [Hsw.out] at ho3;(go_wp2_with fail);go_roundw
            case rel=>exact ⟨y,by go_num,Hy.out.2,by have:=Hy.out;omega,ho3,hkz⟩
            case measure=>have:=Hy.out;simp [intOf];omega
        · obtain rfl : k = i:=by omega
          (go_wp2_with fail);refine bodyPost_ret (results_none rfl _ _ _) rfl ?_;exact ⟨rfl,⟨_,ho,Hfin.out.1,Hfin.out.2⟩,hk⟩
end
end Go.Proofs.YtgfpjjppeldhbaaGreatDoor
