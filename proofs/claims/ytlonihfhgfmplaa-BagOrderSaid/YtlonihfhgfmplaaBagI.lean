/- Calls that came in (petrellaw22.Act): what they do to a bag. -/
import Derived.Test.YtlonihfhgfmplaaBagW
import Derived.Test.YtlonihfhgfmplaaOpenS
namespace Go.Proofs.Ytlonihfhgfmplaa
open Go.RowKit Go.WideShapes

structure ActV where
  k : Int
  tag : Id32
  val : ByteArray
  tags : Value
/-- Its cells. -/
def actVC (x : ActV) : Array Value := #[.int .i64 x.k] ++ idC x.tag ++ #[.string x.val] ++ #[x.tags]
@[simp] theorem actVC_size (x : ActV) : (actVC x).size = 35 := by simp [actVC]
@[go_sem] theorem actVC_g0 (x : ActV) : (actVC x)[0]? = some (.int .i64 x.k) := by first | (simp [actVC, Array.getElem?_append]; done) | (rw [show actVC x = ((#[] : Array Value)) ++ #[.int .i64 x.k] ++ (idC x.tag ++ #[.string x.val] ++ #[x.tags]) from by apply Array.ext'; simp [actVC]]; exact arr_at _ _ _ _ (by simp))
@[go_sem] theorem actVC_gg0 (x : ActV) (h : 0 < (actVC x).size) : (actVC x)[0]'h = .int .i64 x.k := Option.some.inj ((Array.getElem?_eq_getElem h).symm.trans (actVC_g0 x))
@[go_sem] theorem actVC_e1 (x : ActV) : (actVC x).extract 1 33 = idC x.tag := by
  have h : actVC x = (#[.int .i64 x.k]) ++ idC x.tag ++ (#[.string x.val] ++ #[x.tags]) := by first | (simp [actVC, Array.append_assoc]; done) | (apply Array.ext'; simp [actVC]; done)
  rw [h]; exact arr_mid _ _ _ _ _ (by simp) (by simp)
@[go_sem] theorem actVC_g33 (x : ActV) : (actVC x)[33]? = some (.string x.val) := by first | (simp [actVC, Array.getElem?_append]; done) | (rw [show actVC x = (#[.int .i64 x.k] ++ idC x.tag) ++ #[.string x.val] ++ (#[x.tags]) from by apply Array.ext'; simp [actVC]]; exact arr_at _ _ _ _ (by simp))
@[go_sem] theorem actVC_gg33 (x : ActV) (h : 33 < (actVC x).size) : (actVC x)[33]'h = .string x.val := Option.some.inj ((Array.getElem?_eq_getElem h).symm.trans (actVC_g33 x))
@[go_sem] theorem actVC_g34 (x : ActV) : (actVC x)[34]? = some (x.tags) := by first | (simp [actVC, Array.getElem?_append]; done) | (rw [show actVC x = (#[.int .i64 x.k] ++ idC x.tag ++ #[.string x.val]) ++ #[x.tags] ++ ((#[] : Array Value)) from by apply Array.ext'; simp [actVC]]; exact arr_at _ _ _ _ (by simp))
@[go_sem] theorem actVC_gg34 (x : ActV) (h : 34 < (actVC x).size) : (actVC x)[34]'h = x.tags := Option.some.inj ((Array.getElem?_eq_getElem h).symm.trans (actVC_g34 x))
@[go_sem] theorem actVC_all (x : ActV) : (actVC x).extract 0 35 = actVC x := by have := Array.extract_size (xs := actVC x); rwa [actVC_size] at this
theorem actVC_inj {x y : ActV} (h : actVC x = actVC y) : x = y := by
  have h0 := congrArg (fun a => a[0]?) h
  simp only [actVC_g0, Option.some.injEq, Value.int.injEq, true_and] at h0
  have h1 := congrArg (fun a => a.extract 1 33) h
  simp only [actVC_e1] at h1
  have h1 := idC_inj h1
  have h2 := congrArg (fun a => a[33]?) h
  simp only [actVC_g33, Option.some.injEq, Value.string.injEq] at h2
  have h3 := congrArg (fun a => a[34]?) h
  simp only [actVC_g34, Option.some.injEq] at h3
  cases x; cases y; simp_all
theorem actVC_one (x : ActV) (htags : x.tags.oneCell' = true) : ∀ u ∈ (actVC x).toList, u.oneCell' = true := by
  intro u hu
  simp only [actVC, Array.toList_append, List.mem_append] at hu
  rcases hu with ((hu | hu) | hu) | hu
  · simp at hu; subst hu; rfl
  · exact idC_one _ u hu
  · simp at hu; subst hu; rfl
  · simp at hu; subst hu; exact htags
def actV0 : ActV := ⟨0, id0, ⟨#[]⟩, (.slice none 0 0)⟩
theorem infoActV : (Try.prog.info? 65).map (·.size) = some 35 := by kernel_rfl
@[go_sem ↓] theorem zeroActV_run (w : World) : (zeroValue 65).run Try.prog w = .ok (.agg (actVC actV0)) w := by
  have h : (Try.prog.info? 65).bind (·.zero) = some (.agg (actVC actV0)) := by kernel_rfl
  cases hi : Try.prog.info? 65 with
  | none => rw [hi] at h; cases h
  | some i =>
    rw [hi] at h
    have hz : i.zero = some (.agg (actVC actV0)) := h
    simp [zeroValue, typeInfo, hi, hz]
@[go_sem ↓] theorem loadActV_rw (a : Addr) : loadVar 65 a = ldS 65 a := rfl
@[go_sem ↓] theorem storeActV_rw (a : Addr) (v : Value) : storeVar 65 a v = stS 65 a v := rfl
@[go_sem] theorem loadActV_run (w : World) (g o : Nat) : (ldS 65 ⟨g, o, none⟩).run Try.prog w = match rowAt w g o 35 with | some cs => .ok (.agg cs) w | none => (loadVar 65 ⟨g, o, none⟩).run Try.prog w :=
  run_ldS Try.underlying65 rfl infoActV w g o
@[go_sem] theorem storeActV_run (w : World) (g : Nat) (hg : g = w.heap.size) (z : Array Value) (hz : z.size = 35) (x : ActV) (htags : x.tags.oneCell' = true) (e : TypeId) : (stS 65 ⟨g, 0, none⟩ (.agg (actVC x))).run Try.prog (w.alloc (.cells z e)) = .ok () (w.alloc (.cells (actVC x) e)) :=
  hg ▸ run_stS_new infoActV w z (actVC x) hz (actVC_size x) (actVC_one x htags)
theorem fieldsActV : Try.prog.underlying 65 = some (.struct (Try.prog.fieldsOf 65)) := by kernel_rfl
theorem placesActV (w : World) : ((Try.prog.fieldsOf 65).mapM fun (f : Field) => do pure (f.offset, ← sizeOf f.type)).run Try.prog w = .ok #[(0, 1), (1, 32), (33, 1), (34, 1)] w := by kernel_rfl
@[go_sem ↓] theorem buildActV_rw (parts : Array (Nat × Value)) : Instr.build 65 parts = bdS 65 parts := rfl
@[go_sem] theorem buildActV (a0 : Int) (a1 : Id32) (a2 : ByteArray) (a3 : Value) (k3 : (a3).cells = #[a3]) (w : World) : (bdS 65 #[(0, .int .i64 a0), (1, .agg (idC a1)), (2, .string a2), (3, a3)]).run Try.prog w = .ok (.agg (actVC ⟨a0, a1, a2, a3⟩)) w := by
  refine run_build w fieldsActV _ (zeroActV_run w) _ (placesActV w) [(0, .int .i64 a0), (1, .agg (idC a1)), (2, .string a2), (3, a3)] _ ?_
  rw [show actVC actV0 = (#[] : Array Value) ++ #[.int .i64 0] ++ (idC id0 ++ (#[.string ⟨#[]⟩] ++ (#[(.slice none 0 0)]))) from by first | (simp [actVC, actV0, Array.append_assoc]; done) | (apply Array.ext'; simp [actVC, actV0])]
  rw [fill_step (off := 0) (size := 1) rfl (by simp) (by simp) (by simp [Value.cells])]
  rw [show (#[] : Array Value) ++ (Value.int .i64 a0).cells ++ (idC id0 ++ (#[.string ⟨#[]⟩] ++ (#[(.slice none 0 0)]))) = (#[.int .i64 a0]) ++ idC id0 ++ (#[.string ⟨#[]⟩] ++ (#[(.slice none 0 0)])) from by first | (simp [k3, Array.append_assoc]; done) | (apply Array.ext'; simp [k3]; done) | (apply Array.ext'; simp only [Array.toList_append, k3]; simp [Value.cells])]
  rw [fill_step (off := 1) (size := 32) rfl (by simp) (by simp) (by simp [Value.cells])]
  rw [show (#[.int .i64 a0]) ++ (Value.agg (idC a1)).cells ++ (#[.string ⟨#[]⟩] ++ (#[(.slice none 0 0)])) = (#[.int .i64 a0] ++ (idC a1)) ++ #[.string ⟨#[]⟩] ++ (#[(.slice none 0 0)]) from by first | (simp [k3, Array.append_assoc]; done) | (apply Array.ext'; simp [k3]; done) | (apply Array.ext'; simp only [Array.toList_append, k3]; simp [Value.cells])]
  rw [fill_step (off := 33) (size := 1) rfl (by simp) (by simp) (by simp [Value.cells])]
  rw [show (#[.int .i64 a0] ++ (idC a1)) ++ (Value.string a2).cells ++ (#[(.slice none 0 0)]) = (#[.int .i64 a0] ++ (idC a1 ++ (#[.string a2]))) ++ #[(.slice none 0 0)] ++ (#[] : Array Value) from by first | (simp [k3, Array.append_assoc]; done) | (apply Array.ext'; simp [k3]; done) | (apply Array.ext'; simp only [Array.toList_append, k3]; simp [Value.cells])]
  rw [fill_step (off := 34) (size := 1) rfl (by simp) (by simp) (by simp [k3])]
  first | (simp [Instr.fill, actVC, Array.append_assoc, Value.cells]; done) | (simp only [Instr.fill, actVC, k3]; congr 1; apply Array.ext'; simp [Value.cells, k3]; done) | (simp only [Instr.fill, actVC, k3]; congr 1; done) | (simp only [Instr.fill, actVC, k3]; done)

/-- A call: what it is, and the tags that its slice holds. -/
structure Act where
  k : Int
  tag : Id32
  val : ByteArray
  A : Option Addr
  n : Nat
  cap : Nat
  T : List Id32
def actC (a : Act) : Array Value := actVC ⟨a.k, a.tag, a.val, .slice a.A a.n a.cap⟩
def ActOk (w : World) (a : Act) : Prop := TagsIn w a.A a.n a.T ∧ a.val.size ≤ maxLen ∧ a.n ≤ maxLen
theorem actC_size (a : Act) : (actC a).size = 35 := actVC_size _

theorem opensAct {w : World} : Opens Try.prog w 65 actC (ActOk w) := by
  intro H enc base spare held fuel cs x h
  obtain ⟨xs, n, rfl, _, hlen, hxl, hel⟩ := DataW.trod_struct Try.underlying65 h
  have hc : Try.prog.cellsOf 65 = 35 := by kernel_rfl
  rw [hc] at hlen
  obtain ⟨a0, h0, k0⟩ := opens_field hxl hel (opens_int Try.underlying3) 0 0 1 _ rfl rfl rfl (by kernel_rfl)
  obtain ⟨a1, h1, k1⟩ := opens_field hxl hel opensId 1 1 32 _ rfl rfl rfl (by kernel_rfl)
  obtain ⟨a2, h2, k2⟩ := opens_field hxl hel (opens_string Try.underlying9) 2 33 1 _ rfl rfl rfl (by kernel_rfl)
  obtain ⟨a3, h3, k3⟩ := opens_field hxl hel (opens_slice (k := 32) Try.underlying63 opensId (by kernel_rfl) (by omega)) 3 34 1 _ rfl rfl rfl (by kernel_rfl)
  obtain ⟨A, m, c, R⟩ := a3
  obtain ⟨r1, r2, r3⟩ := k3
  refine ⟨⟨a0, a1, a2, A, m, c, R⟩, ?_, r1, k2, Nat.le_trans r2 r3⟩
  have e0 : cs.drop 0 = (cs.drop 0).take 1 ++ cs.drop 1 := take_seg
  have e1 : cs.drop 1 = (cs.drop 1).take 32 ++ cs.drop 33 := take_seg
  have e2 : cs.drop 33 = (cs.drop 33).take 1 ++ cs.drop 34 := take_seg
  have e3 : cs.drop 34 = (cs.drop 34).take 1 ++ cs.drop 35 := take_seg
  have en : cs.drop 35 = [] := List.drop_eq_nil_of_le (by omega)
  refine e0.trans ?_
  rw [h0, e1, h1, e2, h2, e3, h3, en]
  simp [actC, actVC]

/-- What a call does to what is there and what is gone. -/
def isAdd (a : Act) : Bool := decide (a.k = 0 ∨ a.k = 1)
abbrev BSt := List BRow × List BRow
def playS (s : BSt) (a : Act) : BSt := if isAdd a then (addB s.1 s.2 ⟨a.tag, a.val⟩, s.2) else if 16 < a.val.size then s else (remL s.1 a.val a.T, remG s.2 a.val a.T)

set_option maxRecDepth 100000 in
set_option maxHeartbeats 1000000 in
theorem bplay (a : Act) (w : World) (g bl bg : Nat) (s : BSt) (h : BagAt w g bl bg s.1 s.2) (hT : TagsIn w a.A a.n a.T) (hv : a.val.size ≤ 9223372036854775807) (hn : a.n ≤ 1000000) :
    Calls Try.prog 29 #[.pointer (some ⟨g, 0, none⟩), .agg (actC a)] w fun e w' => e = .returned (.int .i64 (longE a.val)) ∧ BagAt w' g bl bg (playS s a).1 (playS s a).2 ∧ Keep [bl, bg] w w' := by
  obtain ⟨k, tag, val, A, n, cap, T⟩ := a
  obtain ⟨L, G⟩ := s
  dsimp only at h hT hv hn ⊢
  have hb1 : Below w.heap.size w (w.alloc (.cells (actC ⟨k, tag, val, A, n, cap, T⟩) 65)) := (Below.refl _ _).alloc (Nat.le_refl _) _
  have h1 := h.below hb1
  have hT1 := SlR.below hT hb1
  unfold actC at hb1 h1 hT1 ⊢
  dsimp only at hb1 h1 hT1 ⊢
  by_cases hk : k = 0 ∨ k = 1
  · have e1 : playS (L, G) ⟨k, tag, val, A, n, cap, T⟩ = (addB L G ⟨tag, val⟩, G) := by unfold playS isAdd; simp [hk]
    rw [e1]
    have hadd := badd tag val _ g bl bg L G h1 hv
    rcases hk with hk | hk
    all_goals
      subst hk
      clear e1
      go_enter Try.func29, Try.ntmps29
      go_wp2_with fail
      refine hadd.mono ?_; rintro e w1 ⟨rfl, h2, hk2⟩
      go_wp2_with fail
      go_ret
      exact ⟨rfl, h2, Keep.trans ((Keep.of_below hb1).mono (S' := [bl, bg]) (by simp)) hk2 (by simp)⟩
  · have e1 : playS (L, G) ⟨k, tag, val, A, n, cap, T⟩ = (if 16 < val.size then L else remL L val T, if 16 < val.size then G else remG G val T) := by
      unfold playS isAdd
      simp only [hk, decide_false, Bool.false_eq_true, if_false]
      split <;> rfl
    rw [e1]
    have hrem := brem val A n cap T _ g bl bg L G h1 hT1 hv hn
    have hk0 : (k == 0) = false := by rw [beq_eq_false_iff_ne]; exact fun e => hk (.inl e)
    have hk1 : (k == 1) = false := by rw [beq_eq_false_iff_ne]; exact fun e => hk (.inr e)
    generalize (if 16 < val.size then L else remL L val T) = L2 at hrem ⊢
    generalize (if 16 < val.size then G else remG G val T) = G2 at hrem ⊢
    clear e1 hk
    go_enter Try.func29, Try.ntmps29
    go_wp2_with fail
    refine hrem.mono ?_; rintro e w1 ⟨rfl, h2, hk2⟩
    go_wp2_with fail
    go_ret
    exact ⟨rfl, h2, Keep.trans ((Keep.of_below hb1).mono (S' := [bl, bg]) (by simp)) hk2 (by simp)⟩

end Go.Proofs.Ytlonihfhgfmplaa
