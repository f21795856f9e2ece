/- Errors of package fault: trees; what errors.As and errors.Is ask of the model. -/
import Derived.Test.YtiihicmodohaeaaDoorOpen
import Derived.Test.YtiihicmodohaeaaDoorMany
import Derived.LaidEql
import Derived.Stop.Asserts
import Derived.RowKitTokens
import Derived.Deep.LoopGhost
namespace Go.Proofs.YtiihicmodohaeaaDoor
open Go.RowKit Go.Extern.Stop Go.Stop Go.Extern

inductive ErrT where
  | num (e : Int)
  | rep (ids : List Id32)
  | wrap (op : ByteArray) (t : ErrT)
  | both (a b : ErrT)
def ErrT.sz : ErrT → Nat
  | .num _ => 1
  | .rep _ => 2
  | .wrap _ t => t.sz + 1
  | .both a b => a.sz + b.sz + 1
/-- The value v is the error t. -/
def ErrAt (w : World) : ErrT → Value → Prop
  | .num e, v => e ≠ 0 ∧ v = .iface 42 (.int .i64 e)
  | .rep ids, v => ∃ g A n cap, v = .iface 53 (.pointer (some ⟨g, 0, none⟩)) ∧ w.heap[g]? = some (.cells #[.slice A n cap] 56 (0, 0)) ∧ SlR w A n 32 (ids.map idC) ∧ 0 < n
  | .wrap op t, v => ∃ g u, v = .iface 57 (.pointer (some ⟨g, 0, none⟩)) ∧ w.heap[g]? = some (.cells #[.string op, u] 59 (0, 0)) ∧ ErrAt w t u
  | .both a b, v => ∃ g x y, v = .iface 71 (.pointer (some ⟨g, 0, none⟩)) ∧ w.heap[g]? = some (.cells #[x, y] 73 (0, 0)) ∧ ErrAt w a x ∧ ErrAt w b y
theorem heap_lt {w : World} {g : Nat} {o : Obj} (h : w.heap[g]? = some o) : g < w.heap.size := (Array.getElem?_eq_some_iff.1 h).1
theorem ErrAt.below {w w' : World} (hb : Below w.heap.size w w') : ∀ {t : ErrT} {v : Value}, ErrAt w t v → ErrAt w' t v
  | .num _, _, h => h
  | .rep _, _, ⟨g, A, n, cap, e, hg, hs, hn⟩ => ⟨g, A, n, cap, e, (hb.block g (heap_lt hg)).trans hg, hs.below hb, hn⟩
  | .wrap _ _, _, ⟨g, u, e, hg, ht⟩ => ⟨g, u, e, (hb.block g (heap_lt hg)).trans hg, ht.below hb⟩
  | .both _ _, _, ⟨g, x, y, e, hg, hx, hy⟩ => ⟨g, x, y, e, (hb.block g (heap_lt hg)).trans hg, hx.below hb, hy.below hb⟩
theorem ErrAt.iface {w : World} : ∀ {t : ErrT} {v : Value}, ErrAt w t v → ∃ d x, v = .iface d x
  | .num _, _, ⟨_, e⟩ => ⟨_, _, e⟩
  | .rep _, _, ⟨_, _, _, _, e, _⟩ => ⟨_, _, e⟩
  | .wrap _ _, _, ⟨_, _, e, _⟩ => ⟨_, _, e⟩
  | .both _ _, _, ⟨_, _, _, e, _⟩ => ⟨_, _, e⟩

/-! What the document says of it. -/
def repOf : ErrT → Option (List Id32)
  | .num _ => none
  | .rep ids => some ids
  | .wrap _ t => repOf t
  | .both a b => match repOf a with | some l => some l | none => repOf b
def codeOf : ErrT → Int
  | .num e => e
  | .rep _ => 16
  | .wrap _ t => codeOf t
  | .both a _ => codeOf a
def opsOf : ErrT → List ByteArray
  | .num _ => []
  | .rep _ => []
  | .wrap op t => op :: opsOf t
  | .both a b => opsOf a ++ opsOf b
def isOf (e : Int) : ErrT → Bool
  | .num n => n == e
  | .rep _ => (16 : Int) == e
  | .wrap _ t => isOf e t
  | .both a b => isOf e a || isOf e b

/-! ### Closed facts on method sets -/
theorem noAs_n (v : Value) (xT : TypeId) (w : World) : (Instr.typeAssert (.iface 42 v) xT 94 true).run Tryd.prog w = .ok (.tuple #[.nilIface, .bool false]) w := run_typeAssert_lacksB Tryd.underlying94 (by kernel_rfl) (by kernel_rfl) v xT w
theorem noAs_r (v : Value) (xT : TypeId) (w : World) : (Instr.typeAssert (.iface 53 v) xT 94 true).run Tryd.prog w = .ok (.tuple #[.nilIface, .bool false]) w := run_typeAssert_lacksB Tryd.underlying94 (by kernel_rfl) (by kernel_rfl) v xT w
theorem noAs_w (v : Value) (xT : TypeId) (w : World) : (Instr.typeAssert (.iface 57 v) xT 94 true).run Tryd.prog w = .ok (.tuple #[.nilIface, .bool false]) w := run_typeAssert_lacksB Tryd.underlying94 (by kernel_rfl) (by kernel_rfl) v xT w
theorem noAs_b (v : Value) (xT : TypeId) (w : World) : (Instr.typeAssert (.iface 71 v) xT 94 true).run Tryd.prog w = .ok (.tuple #[.nilIface, .bool false]) w := run_typeAssert_lacksB Tryd.underlying94 (by kernel_rfl) (by kernel_rfl) v xT w
theorem noIs_n (v : Value) (xT : TypeId) (w : World) : (Instr.typeAssert (.iface 42 v) xT 101 true).run Tryd.prog w = .ok (.tuple #[.nilIface, .bool false]) w := run_typeAssert_lacksB Tryd.underlying101 (by kernel_rfl) (by kernel_rfl) v xT w
theorem noIs_r (v : Value) (xT : TypeId) (w : World) : (Instr.typeAssert (.iface 53 v) xT 101 true).run Tryd.prog w = .ok (.tuple #[.nilIface, .bool false]) w := run_typeAssert_lacksB Tryd.underlying101 (by kernel_rfl) (by kernel_rfl) v xT w
theorem noIs_w (v : Value) (xT : TypeId) (w : World) : (Instr.typeAssert (.iface 57 v) xT 101 true).run Tryd.prog w = .ok (.tuple #[.nilIface, .bool false]) w := run_typeAssert_lacksB Tryd.underlying101 (by kernel_rfl) (by kernel_rfl) v xT w
theorem noIs_b (v : Value) (xT : TypeId) (w : World) : (Instr.typeAssert (.iface 71 v) xT 101 true).run Tryd.prog w = .ok (.tuple #[.nilIface, .bool false]) w := run_typeAssert_lacksB Tryd.underlying101 (by kernel_rfl) (by kernel_rfl) v xT w
theorem noU_n (v : Value) (xT : TypeId) (w : World) : (Instr.typeAssert (.iface 42 v) xT 97 true).run Tryd.prog w = .ok (.tuple #[.nilIface, .bool false]) w := run_typeAssert_lacksB Tryd.underlying97 (by kernel_rfl) (by kernel_rfl) v xT w
theorem hasU_r (v : Value) (xT : TypeId) (w : World) : (Instr.typeAssert (.iface 53 v) xT 97 true).run Tryd.prog w = .ok (.tuple #[.iface 53 v, .bool true]) w := run_typeAssert_hasB Tryd.underlying97 (by kernel_rfl) v xT w
theorem hasU_w (v : Value) (xT : TypeId) (w : World) : (Instr.typeAssert (.iface 57 v) xT 97 true).run Tryd.prog w = .ok (.tuple #[.iface 57 v, .bool true]) w := run_typeAssert_hasB Tryd.underlying97 (by kernel_rfl) v xT w
theorem noU_b (v : Value) (xT : TypeId) (w : World) : (Instr.typeAssert (.iface 71 v) xT 97 true).run Tryd.prog w = .ok (.tuple #[.nilIface, .bool false]) w := run_typeAssert_lacksB Tryd.underlying97 (by kernel_rfl) (by kernel_rfl) v xT w
theorem noUs_n (v : Value) (xT : TypeId) (w : World) : (Instr.typeAssert (.iface 42 v) xT 99 true).run Tryd.prog w = .ok (.tuple #[.nilIface, .bool false]) w := run_typeAssert_lacksB Tryd.underlying99 (by kernel_rfl) (by kernel_rfl) v xT w
theorem hasUs_b (v : Value) (xT : TypeId) (w : World) : (Instr.typeAssert (.iface 71 v) xT 99 true).run Tryd.prog w = .ok (.tuple #[.iface 71 v, .bool true]) w := run_typeAssert_hasB Tryd.underlying99 (by kernel_rfl) v xT w
theorem methUr (v : Value) (w : World) : (Go.method 234 53 v "Unwrap").run Tryd.prog w = .ok (54, v) w := by kernel_rfl
theorem methUw (v : Value) (w : World) : (Go.method 234 57 v "Unwrap").run Tryd.prog w = .ok (56, v) w := by kernel_rfl
theorem methUb (v : Value) (w : World) : (Go.method 234 71 v "Unwrap").run Tryd.prog w = .ok (58, v) w := by kernel_rfl
theorem methKind (h : Value) (w : World) : (Go.method 234 90 (.agg #[h]) "Kind").run Tryd.prog w = .ok (49, h) w := by kernel_rfl
theorem methElem (h : Value) (w : World) : (Go.method 234 90 (.agg #[h]) "Elem").run Tryd.prog w = .ok (65, .agg #[h]) w := by kernel_rfl
theorem methImpl (h : Value) (w : World) : (Go.method 234 90 (.agg #[h]) "Implements").run Tryd.prog w = .ok (66, .agg #[h]) w := by kernel_rfl
theorem methAssign (h : Value) (w : World) : (Go.method 234 90 (.agg #[h]) "AssignableTo").run Tryd.prog w = .ok (63, .agg #[h]) w := by kernel_rfl
theorem methComp (v : Value) (w : World) : (Go.method 234 90 v "Comparable").run Tryd.prog w = .ok (64, v) w := by kernel_rfl

/-! ### Closed facts on internal/reflectlite -/
def hT (t : TypeId) : Value := .iface 90 (.agg #[.pointer (some ⟨1, t, none⟩)])
def vAt (t : TypeId) (a : Addr) (fl : Int) : Value := .agg #[.pointer (some ⟨1, t, none⟩), .pointer (some a), .int .u64 fl]
theorem typeOf_n (v : Value) (w : World) : (ReflectliteType.typeOf #[.iface 42 v]).run Tryd.prog w = .ok (.iface 90 (.agg #[.pointer (some ⟨1, 42, none⟩)])) w := by kernel_rfl
theorem assignR_n (w : World) : (ReflectliteType.relation "AssignableTo" ReflectliteType.assignableTo #[.agg #[.pointer (some ⟨1, 42, none⟩)], .iface 90 (.agg #[.pointer (some ⟨1, 53, none⟩)])]).run Tryd.prog w = .ok (.bool false) w := by kernel_rfl
theorem assignN_n (w : World) : (ReflectliteType.relation "AssignableTo" ReflectliteType.assignableTo #[.agg #[.pointer (some ⟨1, 42, none⟩)], .iface 90 (.agg #[.pointer (some ⟨1, 42, none⟩)])]).run Tryd.prog w = .ok (.bool true) w := by kernel_rfl
theorem typeOf_r (v : Value) (w : World) : (ReflectliteType.typeOf #[.iface 53 v]).run Tryd.prog w = .ok (.iface 90 (.agg #[.pointer (some ⟨1, 53, none⟩)])) w := by kernel_rfl
theorem assignR_r (w : World) : (ReflectliteType.relation "AssignableTo" ReflectliteType.assignableTo #[.agg #[.pointer (some ⟨1, 53, none⟩)], .iface 90 (.agg #[.pointer (some ⟨1, 53, none⟩)])]).run Tryd.prog w = .ok (.bool true) w := by kernel_rfl
theorem assignN_r (w : World) : (ReflectliteType.relation "AssignableTo" ReflectliteType.assignableTo #[.agg #[.pointer (some ⟨1, 53, none⟩)], .iface 90 (.agg #[.pointer (some ⟨1, 42, none⟩)])]).run Tryd.prog w = .ok (.bool false) w := by kernel_rfl
theorem typeOf_w (v : Value) (w : World) : (ReflectliteType.typeOf #[.iface 57 v]).run Tryd.prog w = .ok (.iface 90 (.agg #[.pointer (some ⟨1, 57, none⟩)])) w := by kernel_rfl
theorem assignR_w (w : World) : (ReflectliteType.relation "AssignableTo" ReflectliteType.assignableTo #[.agg #[.pointer (some ⟨1, 57, none⟩)], .iface 90 (.agg #[.pointer (some ⟨1, 53, none⟩)])]).run Tryd.prog w = .ok (.bool false) w := by kernel_rfl
theorem assignN_w (w : World) : (ReflectliteType.relation "AssignableTo" ReflectliteType.assignableTo #[.agg #[.pointer (some ⟨1, 57, none⟩)], .iface 90 (.agg #[.pointer (some ⟨1, 42, none⟩)])]).run Tryd.prog w = .ok (.bool false) w := by kernel_rfl
theorem typeOf_b (v : Value) (w : World) : (ReflectliteType.typeOf #[.iface 71 v]).run Tryd.prog w = .ok (.iface 90 (.agg #[.pointer (some ⟨1, 71, none⟩)])) w := by kernel_rfl
theorem assignR_b (w : World) : (ReflectliteType.relation "AssignableTo" ReflectliteType.assignableTo #[.agg #[.pointer (some ⟨1, 71, none⟩)], .iface 90 (.agg #[.pointer (some ⟨1, 53, none⟩)])]).run Tryd.prog w = .ok (.bool false) w := by kernel_rfl
theorem assignN_b (w : World) : (ReflectliteType.relation "AssignableTo" ReflectliteType.assignableTo #[.agg #[.pointer (some ⟨1, 71, none⟩)], .iface 90 (.agg #[.pointer (some ⟨1, 42, none⟩)])]).run Tryd.prog w = .ok (.bool false) w := by kernel_rfl

theorem valueOf_r (t : Addr) (w : World) : (ReflectliteValue.unpack (.iface 61 (.pointer (some t)))).run Tryd.prog w = .ok (.agg #[.pointer (some ⟨1, 61, none⟩), .pointer (some ⟨w.heap.size, 0, none⟩), .int .u64 150]) (w.alloc (.cells #[.pointer (some t)] 61)) := by kernel_rfl
theorem type_r (a : Addr) (w : World) : (ReflectliteValue.methodAny (ReflectliteValue.valueError "reflectlite.Value.Type" 0) (fun t _ _ _ => ReflectliteType.toType t) #[.agg #[.pointer (some ⟨1, 61, none⟩), .pointer (some a), .int .u64 150]]).run Tryd.prog w = .ok (.iface 90 (.agg #[.pointer (some ⟨1, 61, none⟩)])) w := by kernel_rfl
theorem kindP_r (w : World) : ((ReflectliteType.abiMethod fun t => (fun a : Nat => Value.int IntKind.u8 (a : Int)) <$> Rtype.kind t) #[.pointer (some ⟨1, 61, none⟩)]).run Tryd.prog w = .ok (.int .u8 22) w := by kernel_rfl
theorem kindE_r (w : World) : ((ReflectliteType.abiMethod fun t => (fun a : Nat => Value.int IntKind.u8 (a : Int)) <$> Rtype.kind t) #[.pointer (some ⟨1, 53, none⟩)]).run Tryd.prog w = .ok (.int .u8 22) w := by kernel_rfl
theorem parts_r (a : Addr) (w : World) : (ReflectliteValue.parts (.agg #[.pointer (some ⟨1, 61, none⟩), .pointer (some a), .int .u64 150])).run Tryd.prog w = .ok (some (61, a, 150)) w := by kernel_rfl
theorem elemT_r (w : World) : (ReflectliteType.method ReflectliteType.elem #[.agg #[.pointer (some ⟨1, 61, none⟩)]]).run Tryd.prog w = .ok (.iface 90 (.agg #[.pointer (some ⟨1, 53, none⟩)])) w := by kernel_rfl
theorem impl_r (w : World) : (ReflectliteType.relation "Implements" ReflectliteType.implements_ #[.agg #[.pointer (some ⟨1, 53, none⟩)], .iface 90 (.agg #[.pointer (some ⟨1, 26, none⟩)])]).run Tryd.prog w = .ok (.bool true) w := by kernel_rfl
theorem elemOf_r (w : World) : (Rtype.elem? 61).run Tryd.prog w = .ok (some 53) w := by kernel_rfl
theorem mk_r (p : Addr) (w : World) : (ReflectliteValue.mk 53 p ReflectliteValue.flagAddr).run Tryd.prog w = .ok (.agg #[.pointer (some ⟨1, 53, none⟩), .pointer (some p), .int .u64 406]) w := by kernel_rfl
theorem partsA_r (a : Addr) (w : World) : (ReflectliteValue.parts (.agg #[.pointer (some ⟨1, 53, none⟩), .pointer (some a), .int .u64 406])).run Tryd.prog w = .ok (some (53, a, 406)) w := by kernel_rfl
theorem partsB_r (a : Addr) (w : World) : (ReflectliteValue.parts (.agg #[.pointer (some ⟨1, 53, none⟩), .pointer (some a), .int .u64 150])).run Tryd.prog w = .ok (some (53, a, 150)) w := by kernel_rfl
theorem direct_r (w : World) : (Rtype.directlyAssignable 53 53).run Tryd.prog w = .ok true w := by kernel_rfl
theorem sizeE_r (w : World) : (sizeOf 53).run Tryd.prog w = .ok 1 w := by kernel_rfl
theorem valueOf_n (t : Addr) (w : World) : (ReflectliteValue.unpack (.iface 70 (.pointer (some t)))).run Tryd.prog w = .ok (.agg #[.pointer (some ⟨1, 70, none⟩), .pointer (some ⟨w.heap.size, 0, none⟩), .int .u64 150]) (w.alloc (.cells #[.pointer (some t)] 70)) := by kernel_rfl
theorem type_n (a : Addr) (w : World) : (ReflectliteValue.methodAny (ReflectliteValue.valueError "reflectlite.Value.Type" 0) (fun t _ _ _ => ReflectliteType.toType t) #[.agg #[.pointer (some ⟨1, 70, none⟩), .pointer (some a), .int .u64 150]]).run Tryd.prog w = .ok (.iface 90 (.agg #[.pointer (some ⟨1, 70, none⟩)])) w := by kernel_rfl
theorem kindP_n (w : World) : ((ReflectliteType.abiMethod fun t => (fun a : Nat => Value.int IntKind.u8 (a : Int)) <$> Rtype.kind t) #[.pointer (some ⟨1, 70, none⟩)]).run Tryd.prog w = .ok (.int .u8 22) w := by kernel_rfl
theorem kindE_n (w : World) : ((ReflectliteType.abiMethod fun t => (fun a : Nat => Value.int IntKind.u8 (a : Int)) <$> Rtype.kind t) #[.pointer (some ⟨1, 42, none⟩)]).run Tryd.prog w = .ok (.int .u8 2) w := by kernel_rfl
theorem parts_n (a : Addr) (w : World) : (ReflectliteValue.parts (.agg #[.pointer (some ⟨1, 70, none⟩), .pointer (some a), .int .u64 150])).run Tryd.prog w = .ok (some (70, a, 150)) w := by kernel_rfl
theorem elemT_n (w : World) : (ReflectliteType.method ReflectliteType.elem #[.agg #[.pointer (some ⟨1, 70, none⟩)]]).run Tryd.prog w = .ok (.iface 90 (.agg #[.pointer (some ⟨1, 42, none⟩)])) w := by kernel_rfl
theorem impl_n (w : World) : (ReflectliteType.relation "Implements" ReflectliteType.implements_ #[.agg #[.pointer (some ⟨1, 42, none⟩)], .iface 90 (.agg #[.pointer (some ⟨1, 26, none⟩)])]).run Tryd.prog w = .ok (.bool true) w := by kernel_rfl
theorem elemOf_n (w : World) : (Rtype.elem? 70).run Tryd.prog w = .ok (some 42) w := by kernel_rfl
theorem mk_n (p : Addr) (w : World) : (ReflectliteValue.mk 42 p ReflectliteValue.flagAddr).run Tryd.prog w = .ok (.agg #[.pointer (some ⟨1, 42, none⟩), .pointer (some p), .int .u64 386]) w := by kernel_rfl
theorem partsA_n (a : Addr) (w : World) : (ReflectliteValue.parts (.agg #[.pointer (some ⟨1, 42, none⟩), .pointer (some a), .int .u64 386])).run Tryd.prog w = .ok (some (42, a, 386)) w := by kernel_rfl
theorem partsB_n (a : Addr) (w : World) : (ReflectliteValue.parts (.agg #[.pointer (some ⟨1, 42, none⟩), .pointer (some a), .int .u64 130])).run Tryd.prog w = .ok (some (42, a, 130)) w := by kernel_rfl
theorem direct_n (w : World) : (Rtype.directlyAssignable 42 42).run Tryd.prog w = .ok true w := by kernel_rfl
theorem sizeE_n (w : World) : (sizeOf 42).run Tryd.prog w = .ok 1 w := by kernel_rfl
theorem valueE_r (v : Addr) (w : World) : (ReflectliteValue.unpack (.iface 53 (.pointer (some v)))).run Tryd.prog w = .ok (.agg #[.pointer (some ⟨1, 53, none⟩), .pointer (some ⟨w.heap.size, 0, none⟩), .int .u64 150]) (w.alloc (.cells #[.pointer (some v)] 53)) := by kernel_rfl
theorem valueE_n (e : Int) (w : World) : (ReflectliteValue.unpack (.iface 42 (.int .i64 e))).run Tryd.prog w = .ok (.agg #[.pointer (some ⟨1, 42, none⟩), .pointer (some ⟨w.heap.size, 0, none⟩), .int .u64 130]) (w.alloc (.cells #[.int .i64 e] 42)) := by kernel_rfl

/-! ### The entries that read or write memory -/
theorem rlm (z : Sem Value) (f : TypeId → Addr → Nat → Nat → Sem Value) (v : Value) :
    ReflectliteValue.method z f #[v] = (do match ← ReflectliteValue.parts v with | none => z | some (t, a, fl) => f t a fl (fl % 32)) := rfl
theorem rls (v x : Value) : ReflectliteValue.set #[v, x] = (do
    let (some (dst, a, fl), some (src, b, _)) := (← ReflectliteValue.parts v, ← ReflectliteValue.parts x)
      | unsupported (.noEntry "extern/(internal/reflectlite.Value).Set.zeroValue")
    if fl / ReflectliteValue.flagAddr % 2 == 0 then unsupported (.noEntry "extern/(internal/reflectlite.Value).Set.unaddressable")
    let val ← loadVar src b
    if ← Rtype.directlyAssignable dst src then storeVar dst a val
    else if ← Rtype.implements dst src then
      if (← Rtype.kind src) == 20 then
        match val with
        | .nilIface => unsupported (.noEntry "extern/reflectlite: a nil value of one interface type handed on as a value of another")
        | _ => storeVar dst a val
      else storeVar dst a (.iface src val)
    else panicString ("reflectlite.Set: value of type " ++ (← Rtype.spelt src) ++ " is not assignable to type " ++ (← Rtype.spelt dst))
    pure (.tuple #[])) := rfl
theorem isNil_r (a p : Addr) (W : World) (ha : W.cell? a = some (.pointer (some p))) :
    (ReflectliteValue.method (ReflectliteValue.valueError "reflectlite.Value.IsNil" 0) ReflectliteValue.isNil #[.agg #[.pointer (some ⟨1, 61, none⟩), .pointer (some a), .int .u64 150]]).run Tryd.prog W = .ok (.bool false) W := by
  rw [rlm]
  simp only [Sem.run_bind, parts_r, Result.andThen]
  simp [ReflectliteValue.isNil, loadVar, isAgg, underlying, Tryd.underlying61, ha, Result.andThen]
theorem elemV_r (a p : Addr) (W : World) (ha : W.cell? a = some (.pointer (some p))) :
    (ReflectliteValue.method (ReflectliteValue.valueError "reflectlite.Value.Elem" 0) ReflectliteValue.elem #[.agg #[.pointer (some ⟨1, 61, none⟩), .pointer (some a), .int .u64 150]]).run Tryd.prog W
      = .ok (.agg #[.pointer (some ⟨1, 53, none⟩), .pointer (some p), .int .u64 406]) W := by
  rw [rlm]
  simp only [Sem.run_bind, parts_r, Result.andThen]
  simp [ReflectliteValue.elem, loadVar, isAgg, underlying, Tryd.underlying61, ha, Result.andThen, elemOf_r, mk_r]
theorem set_r (ta b : Addr) (u old : Value) (hu : u.cells = #[u]) (hu1 : u.oneCell' = true) (W : World) (hb : W.cell? b = some u) (ht : W.cell? ta = some old) (hf : W.frozen? ta = false) :
    (ReflectliteValue.set #[.agg #[.pointer (some ⟨1, 53, none⟩), .pointer (some ta), .int .u64 406], .agg #[.pointer (some ⟨1, 53, none⟩), .pointer (some b), .int .u64 150]]).run Tryd.prog W = .ok (.tuple #[]) (W.setCell ta u) := by
  rw [rls]
  simp only [Sem.run_bind, partsA_r, partsB_r, Result.andThen]
  simp [ReflectliteValue.flagAddr, loadVar, isAgg, underlying, Tryd.underlying53, hb, Result.andThen, direct_r, storeVar, hu, storeCells, Addr.add]
  rw [run_store Tryd.prog W ta _ _ hu1]
  simp [ht, hf]
theorem isNil_n (a p : Addr) (W : World) (ha : W.cell? a = some (.pointer (some p))) :
    (ReflectliteValue.method (ReflectliteValue.valueError "reflectlite.Value.IsNil" 0) ReflectliteValue.isNil #[.agg #[.pointer (some ⟨1, 70, none⟩), .pointer (some a), .int .u64 150]]).run Tryd.prog W = .ok (.bool false) W := by
  rw [rlm]
  simp only [Sem.run_bind, parts_n, Result.andThen]
  simp [ReflectliteValue.isNil, loadVar, isAgg, underlying, Tryd.underlying70, ha, Result.andThen]
theorem elemV_n (a p : Addr) (W : World) (ha : W.cell? a = some (.pointer (some p))) :
    (ReflectliteValue.method (ReflectliteValue.valueError "reflectlite.Value.Elem" 0) ReflectliteValue.elem #[.agg #[.pointer (some ⟨1, 70, none⟩), .pointer (some a), .int .u64 150]]).run Tryd.prog W
      = .ok (.agg #[.pointer (some ⟨1, 42, none⟩), .pointer (some p), .int .u64 386]) W := by
  rw [rlm]
  simp only [Sem.run_bind, parts_n, Result.andThen]
  simp [ReflectliteValue.elem, loadVar, isAgg, underlying, Tryd.underlying70, ha, Result.andThen, elemOf_n, mk_n]
theorem set_n (ta b : Addr) (u old : Value) (hu : u.cells = #[u]) (hu1 : u.oneCell' = true) (W : World) (hb : W.cell? b = some u) (ht : W.cell? ta = some old) (hf : W.frozen? ta = false) :
    (ReflectliteValue.set #[.agg #[.pointer (some ⟨1, 42, none⟩), .pointer (some ta), .int .u64 386], .agg #[.pointer (some ⟨1, 42, none⟩), .pointer (some b), .int .u64 130]]).run Tryd.prog W = .ok (.tuple #[]) (W.setCell ta u) := by
  rw [rls]
  simp only [Sem.run_bind, partsA_n, partsB_n, Result.andThen]
  simp [ReflectliteValue.flagAddr, loadVar, isAgg, underlying, Tryd.underlying42, hb, Result.andThen, direct_n, storeVar, hu, storeCells, Addr.add]
  rw [run_store Tryd.prog W ta _ _ hu1]
  simp [ht, hf]

end Go.Proofs.YtiihicmodohaeaaDoor
