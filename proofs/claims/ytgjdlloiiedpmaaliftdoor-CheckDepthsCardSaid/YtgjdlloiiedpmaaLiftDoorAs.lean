/- errors.As at a target of type *check.wrong: after the worked example ToyasAs. No condition. -/
import Derived.Test.YtgjdlloiiedpmaaLiftDoorRegion
import Derived.LaidEql
import Derived.Stop.Asserts
import Derived.RowKitTokens
namespace Go.Proofs.YtgjdlloiiedpmaaLiftDoor
open Go.RowKit Go.Extern.Stop Go.Stop Go.Extern

/-! ### Closed facts on the model's entries for internal/reflectlite, at this program's types -/
theorem asValueOfP (t : Addr) (w : World) : (ReflectliteValue.unpack (.iface 65 (.pointer (some t)))).run Tryl.prog w
    = .ok (.agg #[.pointer (some ⟨4, 65, none⟩), .pointer (some ⟨w.heap.size, 0, none⟩), .int .u64 150]) (w.alloc (.cells #[.pointer (some t)] 65)) := by kernel_rfl
theorem asTypeP (a : Addr) (w : World) : (ReflectliteValue.methodAny (ReflectliteValue.valueError "reflectlite.Value.Type" 0) (fun t _ _ _ => ReflectliteType.toType t) #[.agg #[.pointer (some ⟨4, 65, none⟩), .pointer (some a), .int .u64 150]]).run Tryl.prog w
    = .ok (.iface 91 (.agg #[.pointer (some ⟨4, 65, none⟩)])) w := by kernel_rfl
theorem asMethodKind (h : Value) (w : World) : (Go.method 257 91 (.agg #[h]) "Kind").run Tryl.prog w = .ok (88, h) w := by kernel_rfl
theorem asKindP (w : World) : ((ReflectliteType.abiMethod fun t => (fun a : Nat => Value.int IntKind.u8 (a : Int)) <$> Rtype.kind t) #[.pointer (some ⟨4, 65, none⟩)]).run Tryl.prog w = .ok (.int .u8 22) w := by kernel_rfl
theorem asKindE (w : World) : ((ReflectliteType.abiMethod fun t => (fun a : Nat => Value.int IntKind.u8 (a : Int)) <$> Rtype.kind t) #[.pointer (some ⟨4, 51, none⟩)]).run Tryl.prog w = .ok (.int .u8 25) w := by kernel_rfl
theorem rlm (z : Sem Value) (f : TypeId → Addr → Nat → Nat → Sem Value) (v : Value) :
    ReflectliteValue.method z f #[v] = (do match ← ReflectliteValue.parts v with | none => z | some (t, a, fl) => f t a fl (fl % 32)) := rfl
theorem asPartsP (a : Addr) (w : World) : (ReflectliteValue.parts (.agg #[.pointer (some ⟨4, 65, none⟩), .pointer (some a), .int .u64 150])).run Tryl.prog w = .ok (some (65, a, 150)) w := by kernel_rfl
theorem asIsNilP (a p : Addr) (W : World) (ha : W.cell? a = some (.pointer (some p))) :
    (ReflectliteValue.method (ReflectliteValue.valueError "reflectlite.Value.IsNil" 0) ReflectliteValue.isNil #[.agg #[.pointer (some ⟨4, 65, none⟩), .pointer (some a), .int .u64 150]]).run Tryl.prog W = .ok (.bool false) W := by
  rw [rlm]
  simp only [Sem.run_bind, asPartsP, Result.andThen]
  simp [ReflectliteValue.isNil, loadVar, isAgg, underlying, Tryl.underlying65, ha, Result.andThen]
theorem asMethodElem (h : Value) (w : World) : (Go.method 257 91 (.agg #[h]) "Elem").run Tryl.prog w = .ok (98, .agg #[h]) w := by kernel_rfl
theorem asMethodImplements (h : Value) (w : World) : (Go.method 257 91 (.agg #[h]) "Implements").run Tryl.prog w = .ok (99, .agg #[h]) w := by kernel_rfl
theorem asMethodAssignableTo (h : Value) (w : World) : (Go.method 257 91 (.agg #[h]) "AssignableTo").run Tryl.prog w = .ok (96, .agg #[h]) w := by kernel_rfl
theorem asElemP (w : World) : (ReflectliteType.method ReflectliteType.elem #[.agg #[.pointer (some ⟨4, 65, none⟩)]]).run Tryl.prog w = .ok (.iface 91 (.agg #[.pointer (some ⟨4, 51, none⟩)])) w := by kernel_rfl
theorem asImplementsE (w : World) : (ReflectliteType.relation "Implements" ReflectliteType.implements_ #[.agg #[.pointer (some ⟨4, 51, none⟩)], .iface 91 (.agg #[.pointer (some ⟨4, 62, none⟩)])]).run Tryl.prog w = .ok (.bool true) w := by kernel_rfl
theorem asTypeOfE (v : Value) (w : World) : (ReflectliteType.typeOf #[.iface 51 v]).run Tryl.prog w = .ok (.iface 91 (.agg #[.pointer (some ⟨4, 51, none⟩)])) w := by kernel_rfl
theorem asAssignableE (w : World) : (ReflectliteType.relation "AssignableTo" ReflectliteType.assignableTo #[.agg #[.pointer (some ⟨4, 51, none⟩)], .iface 91 (.agg #[.pointer (some ⟨4, 51, none⟩)])]).run Tryl.prog w = .ok (.bool true) w := by kernel_rfl
theorem asValueOfE (f i e : Int) (w : World) : (ReflectliteValue.unpack (.iface 51 (.agg #[.int .i64 f, .int .i64 i, .int .i64 e]))).run Tryl.prog w
    = .ok (.agg #[.pointer (some ⟨4, 51, none⟩), .pointer (some ⟨w.heap.size, 0, none⟩), .int .u64 153]) (w.alloc (.cells #[.int .i64 f, .int .i64 i, .int .i64 e] 51)) := by kernel_rfl
theorem asElemOfP (w : World) : (Rtype.elem? 65).run Tryl.prog w = .ok (some 51) w := by kernel_rfl
theorem asMkE (p : Addr) (w : World) : (ReflectliteValue.mk 51 p ReflectliteValue.flagAddr).run Tryl.prog w = .ok (.agg #[.pointer (some ⟨4, 51, none⟩), .pointer (some p), .int .u64 409]) w := by kernel_rfl
theorem asElemVP (a p : Addr) (W : World) (ha : W.cell? a = some (.pointer (some p))) :
    (ReflectliteValue.method (ReflectliteValue.valueError "reflectlite.Value.Elem" 0) ReflectliteValue.elem #[.agg #[.pointer (some ⟨4, 65, none⟩), .pointer (some a), .int .u64 150]]).run Tryl.prog W
      = .ok (.agg #[.pointer (some ⟨4, 51, none⟩), .pointer (some p), .int .u64 409]) W := by
  rw [rlm]
  simp only [Sem.run_bind, asPartsP, Result.andThen]
  simp [ReflectliteValue.elem, loadVar, isAgg, underlying, Tryl.underlying65, ha, Result.andThen, asElemOfP, asMkE]
theorem rls (v x : Value) : ReflectliteValue.set #[v, x] = (do
    let (some (dst, a, fl), some (src, b, _)) := (← ReflectliteValue.parts v, ← ReflectliteValue.parts x)
      | unsupported (.noEntry "extern/(internal/reflectlite.Value).Set.zeroValue")
    if fl / ReflectliteValue.flagAddr % 2 == 0 then unsupported (.noEntry "extern/(internal/reflectlite.Value).Set.unaddressable")
    let val ← loadVar src b
    if ← Rtype.directlyAssignable dst src then storeVar dst a val
    else if ← Rtype.implements dst src then
      if (← Rtype.kind src) == 20 then
        match val with
        | .nilIface => unsupported (.noEntry "extern/reflectlite: a nil value of one interface type handed on as a value of another")
        | _ => storeVar dst a val
      else storeVar dst a (.iface src val)
    else panicString ("reflectlite.Set: value of type " ++ (← Rtype.spelt src) ++ " is not assignable to type " ++ (← Rtype.spelt dst))
    pure (.tuple #[])) := rfl
theorem asPartsEa (a : Addr) (w : World) : (ReflectliteValue.parts (.agg #[.pointer (some ⟨4, 51, none⟩), .pointer (some a), .int .u64 409])).run Tryl.prog w = .ok (some (51, a, 409)) w := by kernel_rfl
theorem asPartsE (a : Addr) (w : World) : (ReflectliteValue.parts (.agg #[.pointer (some ⟨4, 51, none⟩), .pointer (some a), .int .u64 153])).run Tryl.prog w = .ok (some (51, a, 153)) w := by kernel_rfl
theorem asDirectE (w : World) : (Rtype.directlyAssignable 51 51).run Tryl.prog w = .ok true w := by kernel_rfl
theorem asSizeE (w : World) : (sizeOf 51).run Tryl.prog w = .ok 3 w := by kernel_rfl
theorem asLoadE (b : Nat) (f i e : Int) (W : World) (h : W.heap[b]? = some (.cells #[.int .i64 f, .int .i64 i, .int .i64 e] 51 (0, 0))) : (loadVar 51 ⟨b, 0, none⟩).run Tryl.prog W = .ok (.agg #[.int .i64 f, .int .i64 i, .int .i64 e]) W := by
  have h0 := cell_blk h 0 (v := .int .i64 f) rfl
  have h1 := cell_blk h 1 (v := .int .i64 i) rfl
  have h2 := cell_blk h 2 (v := .int .i64 e) rfl
  simp [loadVar, isAgg, underlying, Tryl.underlying51, asSizeE, Result.andThen, loadCells, loadCellsFrom, Addr.add, h0, h1, h2]
/-- What (Value).Set leaves at the target. -/
def put3 (W : World) (tb : Nat) (f i e : Int) : World := ((W.setCell ⟨tb, 0, none⟩ (.int .i64 f)).setCell ⟨tb, 1, none⟩ (.int .i64 i)).setCell ⟨tb, 2, none⟩ (.int .i64 e)
theorem put3_kp {X : Nat → Prop} {w W : World} {tb : Nat} (h : Kp X w W) (hx : X tb) (f i e : Int) : Kp X w (put3 W tb f i e) :=
  ((h.setCell _ _ (fun _ => hx)).setCell _ _ (fun _ => hx)).setCell _ _ (fun _ => hx)
theorem put3_blk {W : World} {tb : Nat} {a b c : Value} {t : TypeId} (h : W.heap[tb]? = some (.cells #[a, b, c] t (0, 0))) (f i e : Int) : (put3 W tb f i e).heap[tb]? = some (.cells #[.int .i64 f, .int .i64 i, .int .i64 e] t (0, 0)) := by
  unfold put3
  rw [blk_setCell (blk_setCell (blk_setCell h 0 _) 1 _) 2 _]; rfl
theorem asStoreE (tb : Nat) (f i e : Int) (a b c : Value) (t : TypeId) (W : World) (h : W.heap[tb]? = some (.cells #[a, b, c] t (0, 0))) :
    (storeVar 51 ⟨tb, 0, none⟩ (.agg #[.int .i64 f, .int .i64 i, .int .i64 e])).run Tryl.prog W = .ok () (put3 W tb f i e) := by
  have h1 := blk_setCell h 0 (.int .i64 f)
  have h2 := blk_setCell h1 1 (.int .i64 i)
  have c0 := cell_blk h 0 (v := a) rfl
  have c1 := cell_blk h1 1 (v := b) rfl
  have c2 := cell_blk h2 2 (v := c) rfl
  have z0 := free_blk h 0
  have z1 := free_blk h1 1
  have z2 := free_blk h2 2
  simp [storeVar, asSizeE, Value.cells, storeCells, Addr.add, Result.andThen, put3]
  rw [run_store _ _ _ _ _ rfl]
  simp [c0, z0]
  rw [run_store _ _ _ _ _ rfl]
  simp [c1, z1]
  rw [run_store _ _ _ _ _ rfl]
  simp [c2, z2]
theorem asSetE (tb b : Nat) (f i e : Int) (x y z : Value) (t : TypeId) (W : World) (hb : W.heap[b]? = some (.cells #[.int .i64 f, .int .i64 i, .int .i64 e] 51 (0, 0))) (ht : W.heap[tb]? = some (.cells #[x, y, z] t (0, 0))) :
    (ReflectliteValue.set #[.agg #[.pointer (some ⟨4, 51, none⟩), .pointer (some ⟨tb, 0, none⟩), .int .u64 409], .agg #[.pointer (some ⟨4, 51, none⟩), .pointer (some ⟨b, 0, none⟩), .int .u64 153]]).run Tryl.prog W
      = .ok (.tuple #[]) (put3 W tb f i e) := by
  rw [rls]
  simp only [Sem.run_bind, asPartsEa, asPartsE, Result.andThen]
  simp [ReflectliteValue.flagAddr, asLoadE b f i e W hb, asStoreE tb f i e x y z t W ht, Result.andThen, asDirectE]

set_option maxHeartbeats 4000000 in
/-- errors.As finds it: four new blocks, and the target's cells. -/
theorem as_hit (tb : Nat) (f i e : Int) (x y z : Value) (t : TypeId) (w : World) (hg : w.cell? ⟨0, 0, none⟩ = some (.iface 91 (.agg #[.pointer (some ⟨4, 62, none⟩)]))) (ht : w.heap[tb]? = some (.cells #[x, y, z] t (0, 0))) :
    Calls Tryl.prog 25 #[.iface 51 (.agg #[.int .i64 f, .int .i64 i, .int .i64 e]), .iface 65 (.pointer (some ⟨tb, 0, none⟩))] w fun ev w' => ev = .returned (.bool true) ∧ Kp (fun b => b = tb) w w' ∧ w'.heap[tb]? = some (.cells #[.int .i64 f, .int .i64 i, .int .i64 e] t (0, 0)) := by
  have h6 := @run_callFunc_extern Tryl.prog 35 _ (fun args => ReflectliteValue.unpack (args.getD 0 (.tuple #[]))) Tryl.func35 (by kernel_rfl) (by kernel_rfl) (by kernel_rfl) (by kernel_rfl)
  have h7 := @run_callFunc_extern Tryl.prog 36 _ (ReflectliteValue.methodAny (ReflectliteValue.valueError "reflectlite.Value.Type" 0) (fun t _ _ _ => ReflectliteType.toType t)) Tryl.func36 (by kernel_rfl) (by kernel_rfl) (by kernel_rfl) (by kernel_rfl)
  have h8 := @run_callFunc_extern Tryl.prog 37 _ (ReflectliteValue.method (ReflectliteValue.valueError "reflectlite.Value.IsNil" 0) ReflectliteValue.isNil) Tryl.func37 (by kernel_rfl) (by kernel_rfl) (by kernel_rfl) (by kernel_rfl)
  have h27 := @run_callFunc_extern Tryl.prog 88 _ (ReflectliteType.abiMethod fun t => do pure (.int .u8 (← Rtype.kind t))) Tryl.func88 (by kernel_rfl) (by kernel_rfl) (by kernel_rfl) (by kernel_rfl)
  have h37 := @run_callFunc_extern Tryl.prog 98 _ (ReflectliteType.method ReflectliteType.elem) Tryl.func98 (by kernel_rfl) (by kernel_rfl) (by kernel_rfl) (by kernel_rfl)
  have h38 := @run_callFunc_extern Tryl.prog 99 _ (ReflectliteType.relation "Implements" ReflectliteType.implements_) Tryl.func99 (by kernel_rfl) (by kernel_rfl) (by kernel_rfl) (by kernel_rfl)
  have h10 := @run_callFunc_extern Tryl.prog 47 _ ReflectliteType.typeOf Tryl.func47 (by kernel_rfl) (by kernel_rfl) (by kernel_rfl) (by kernel_rfl)
  have h35 := @run_callFunc_extern Tryl.prog 96 _ (ReflectliteType.relation "AssignableTo" ReflectliteType.assignableTo) Tryl.func96 (by kernel_rfl) (by kernel_rfl) (by kernel_rfl) (by kernel_rfl)
  have h11 := @run_callFunc_extern Tryl.prog 48 _ (ReflectliteValue.method (ReflectliteValue.valueError "reflectlite.Value.Elem" 0) ReflectliteValue.elem) Tryl.func48 (by kernel_rfl) (by kernel_rfl) (by kernel_rfl) (by kernel_rfl)
  have h12 := @run_callFunc_extern Tryl.prog 49 _ ReflectliteValue.set Tryl.func49 (by kernel_rfl) (by kernel_rfl) (by kernel_rfl) (by kernel_rfl)
  have tO := asTypeOfE
  have mA := asMethodAssignableTo
  have a25 := asAssignableE
  have v25 := asValueOfE
  have f6 := asValueOfP
  have f7 := asTypeP
  have mK := asMethodKind
  have mE := asMethodElem
  have mI := asMethodImplements
  have k27 := asKindP
  have k25 := asKindE
  have e27 := asElemP
  have i25 := asImplementsE
  have W1 := blk_new w (.cells #[.pointer (some ⟨tb, 0, none⟩)] 65) _ rfl
  have n8 := asIsNilP ⟨w.heap.size, 0, none⟩ ⟨tb, 0, none⟩ ((w.alloc (.cells #[.pointer (some ⟨tb, 0, none⟩)] 65)).alloc (.cells #[.pointer (some ⟨4, 65, none⟩), .pointer (some ⟨w.heap.size, 0, none⟩), .int .u64 150] 77)) (cell_al (cell_blk W1 0 rfl) _)
  have hg2 := cell_al (cell_al hg (.cells #[.pointer (some ⟨tb, 0, none⟩)] 65)) (.cells #[.pointer (some ⟨4, 65, none⟩), .pointer (some ⟨w.heap.size, 0, none⟩), .int .u64 150] 77)
  have el := asElemVP ⟨w.heap.size, 0, none⟩ ⟨tb, 0, none⟩ (((w.alloc (.cells #[.pointer (some ⟨tb, 0, none⟩)] 65)).alloc (.cells #[.pointer (some ⟨4, 65, none⟩), .pointer (some ⟨w.heap.size, 0, none⟩), .int .u64 150] 77)).alloc (.cells #[.pointer (some ⟨4, 65, none⟩), .pointer (some ⟨w.heap.size, 0, none⟩), .int .u64 150] 77)) (cell_al (cell_al (cell_blk W1 0 rfl) _) _)
  have ht3 := blk_alloc (blk_alloc (blk_alloc ht (.cells #[.pointer (some ⟨tb, 0, none⟩)] 65)) (.cells #[.pointer (some ⟨4, 65, none⟩), .pointer (some ⟨w.heap.size, 0, none⟩), .int .u64 150] 77)) (.cells #[.pointer (some ⟨4, 65, none⟩), .pointer (some ⟨w.heap.size, 0, none⟩), .int .u64 150] 77)
  have ht4 := blk_alloc ht3 (.cells #[.int .i64 f, .int .i64 i, .int .i64 e] 51)
  have st := asSetE tb (w.heap.size + 1 + 1 + 1) f i e x y z t _ (blk_new (((w.alloc (.cells #[.pointer (some ⟨tb, 0, none⟩)] 65)).alloc (.cells #[.pointer (some ⟨4, 65, none⟩), .pointer (some ⟨w.heap.size, 0, none⟩), .int .u64 150] 77)).alloc (.cells #[.pointer (some ⟨4, 65, none⟩), .pointer (some ⟨w.heap.size, 0, none⟩), .int .u64 150] 77)) (.cells #[.int .i64 f, .int .i64 i, .int .i64 e] 51) (w.heap.size + 1 + 1 + 1) (by simp)) ht4
  go_enter Tryl.func25, Tryl.ntmps25
  go_wp2
  refine wp_loop_rounds 1 ?_
  rw [rounds_succ]
  go_wp2
  go_ret
  exact ⟨rfl, put3_kp (X := fun b => b = tb) ((((((Kp.refl _ w).alloc _).alloc _).alloc _).alloc _)) rfl f i e, put3_blk ht4 f i e⟩
end Go.Proofs.YtgjdlloiiedpmaaLiftDoor
