/- errors.As at the target of sorted.Read (a variable of sorted.bad): no error, and an error of that very type (turned from the kit's worked text on errors.As). -/
import Derived.Test.YtdifgiceallpiaaDoorXCom
import Derived.Test.YtdifgiceallpiaaDoorXPx0
import Derived.Test.YtdifgiceallpiaaDoorXHw
import Derived.LaidEql
import Derived.Stop.Asserts
import Derived.RowKitTokens
import Derived.Test.YtdifgiceallpiaaDoorXPureSo
import Derived.BigQuiet
set_option linter.unusedVariables false
set_option linter.unusedSimpArgs false
set_option linter.unusedSectionVars false
section
namespace Go.Proofs.YtdifgiceallpiaaDoor.Hd
open Go Go.RowKit Go.Extern.Stop Go.Stop Go.Extern Go.Proofs.YtdifgiceallpiaaDoorW.PrintWords Go.Proofs.YtdifgiceallpiaaDoorW.PrintLast Go.Proofs.YtdifgiceallpiaaDoor.Hw
theorem as_nil (t : Value) (w : World) : Calls Tryd.prog 20 #[.nilIface, t] w fun e w' => e = .returned (.bool false) ∧ w' = w := by
  go_enter Tryd.func20, Tryd.ntmps20
  go_wp2
  go_ret
  exact ⟨rfl, rfl⟩
/-! ### the entries at this program's types -/
theorem as_valT (t : Addr) (w : World) : (ReflectliteValue.unpack (.iface 47 (.pointer (some t)))).run Tryd.prog w = .ok (.agg #[.pointer (some ⟨1, 47, none⟩), .pointer (some ⟨w.heap.size, 0, none⟩), .int .u64 150]) (w.alloc (.cells #[.pointer (some t)] 47)) := by kernel_rfl
theorem as_typT (a : Addr) (w : World) : (ReflectliteValue.methodAny (ReflectliteValue.valueError "reflectlite.Value.Type" 0) (fun t _ _ _ => ReflectliteType.toType t) #[.agg #[.pointer (some ⟨1, 47, none⟩), .pointer (some a), .int .u64 150]]).run Tryd.prog w = .ok (.iface 111 (.agg #[.pointer (some ⟨1, 47, none⟩)])) w := by kernel_rfl
theorem as_mKind (h : Value) (w : World) : (Go.method 271 111 (.agg #[h]) "Kind").run Tryd.prog w = .ok (100, h) w := by kernel_rfl
theorem as_kindT (w : World) : ((ReflectliteType.abiMethod fun t => (fun a : Nat => Value.int IntKind.u8 (a : Int)) <$> Rtype.kind t) #[.pointer (some ⟨1, 47, none⟩)]).run Tryd.prog w = .ok (.int .u8 22) w := by kernel_rfl
theorem as_kindB (w : World) : ((ReflectliteType.abiMethod fun t => (fun a : Nat => Value.int IntKind.u8 (a : Int)) <$> Rtype.kind t) #[.pointer (some ⟨1, 45, none⟩)]).run Tryd.prog w = .ok (.int .u8 25) w := by kernel_rfl
theorem as_partsT (a : Addr) (w : World) : (ReflectliteValue.parts (.agg #[.pointer (some ⟨1, 47, none⟩), .pointer (some a), .int .u64 150])).run Tryd.prog w = .ok (some (47, a, 150)) w := by kernel_rfl
theorem as_isNil (a p : Addr) (W : World) (ha : W.cell? a = some (.pointer (some p))) :
    (ReflectliteValue.method (ReflectliteValue.valueError "reflectlite.Value.IsNil" 0) ReflectliteValue.isNil #[.agg #[.pointer (some ⟨1, 47, none⟩), .pointer (some a), .int .u64 150]]).run Tryd.prog W = .ok (.bool false) W := by
  rw [show ReflectliteValue.method (ReflectliteValue.valueError "reflectlite.Value.IsNil" 0) ReflectliteValue.isNil #[.agg #[.pointer (some ⟨1, 47, none⟩), .pointer (some a), .int .u64 150]] = (ReflectliteValue.parts (.agg #[.pointer (some ⟨1, 47, none⟩), .pointer (some a), .int .u64 150]) >>= _) from rfl]
  simp only [Sem.run_bind, as_partsT, Result.andThen]
  simp [ReflectliteValue.isNil, loadVar, isAgg, underlying, Tryd.underlying47, ha, Result.andThen]
theorem as_mElem (h : Value) (w : World) : (Go.method 271 111 (.agg #[h]) "Elem").run Tryd.prog w = .ok (110, .agg #[h]) w := by kernel_rfl
theorem as_mImpl (h : Value) (w : World) : (Go.method 271 111 (.agg #[h]) "Implements").run Tryd.prog w = .ok (111, .agg #[h]) w := by kernel_rfl
theorem as_mAssign (h : Value) (w : World) : (Go.method 271 111 (.agg #[h]) "AssignableTo").run Tryd.prog w = .ok (108, .agg #[h]) w := by kernel_rfl
theorem as_elemT (w : World) : (ReflectliteType.method ReflectliteType.elem #[.agg #[.pointer (some ⟨1, 47, none⟩)]]).run Tryd.prog w = .ok (.iface 111 (.agg #[.pointer (some ⟨1, 45, none⟩)])) w := by kernel_rfl
theorem as_implB (w : World) : (ReflectliteType.relation "Implements" ReflectliteType.implements_ #[.agg #[.pointer (some ⟨1, 45, none⟩)], .iface 111 (.agg #[.pointer (some ⟨1, 41, none⟩)])]).run Tryd.prog w = .ok (.bool true) w := by kernel_rfl
theorem as_typeOf (v : Value) (w : World) : (ReflectliteType.typeOf #[.iface 45 v]).run Tryd.prog w = .ok (.iface 111 (.agg #[.pointer (some ⟨1, 45, none⟩)])) w := by kernel_rfl
theorem as_assign (w : World) : (ReflectliteType.relation "AssignableTo" ReflectliteType.assignableTo #[.agg #[.pointer (some ⟨1, 45, none⟩)], .iface 111 (.agg #[.pointer (some ⟨1, 45, none⟩)])]).run Tryd.prog w = .ok (.bool true) w := by kernel_rfl
theorem as_valB (x : Int) (w : World) : (ReflectliteValue.unpack (.iface 45 (.agg #[.int .i64 x]))).run Tryd.prog w = .ok (.agg #[.pointer (some ⟨1, 45, none⟩), .pointer (some ⟨w.heap.size, 0, none⟩), .int .u64 153]) (w.alloc (.cells #[.int .i64 x] 45)) := by kernel_rfl
theorem as_elemOf (w : World) : (Rtype.elem? 47).run Tryd.prog w = .ok (some 45) w := by kernel_rfl
theorem as_mk (p : Addr) (w : World) : (ReflectliteValue.mk 45 p ReflectliteValue.flagAddr).run Tryd.prog w = .ok (.agg #[.pointer (some ⟨1, 45, none⟩), .pointer (some p), .int .u64 409]) w := by kernel_rfl
theorem as_elemV (a p : Addr) (W : World) (ha : W.cell? a = some (.pointer (some p))) :
    (ReflectliteValue.method (ReflectliteValue.valueError "reflectlite.Value.Elem" 0) ReflectliteValue.elem #[.agg #[.pointer (some ⟨1, 47, none⟩), .pointer (some a), .int .u64 150]]).run Tryd.prog W = .ok (.agg #[.pointer (some ⟨1, 45, none⟩), .pointer (some p), .int .u64 409]) W := by
  rw [show ReflectliteValue.method (ReflectliteValue.valueError "reflectlite.Value.Elem" 0) ReflectliteValue.elem #[.agg #[.pointer (some ⟨1, 47, none⟩), .pointer (some a), .int .u64 150]] = (ReflectliteValue.parts (.agg #[.pointer (some ⟨1, 47, none⟩), .pointer (some a), .int .u64 150]) >>= _) from rfl]
  simp only [Sem.run_bind, as_partsT, Result.andThen]
  simp [ReflectliteValue.elem, loadVar, isAgg, underlying, Tryd.underlying47, ha, Result.andThen, as_elemOf, as_mk]
theorem as_partsA (a : Addr) (w : World) : (ReflectliteValue.parts (.agg #[.pointer (some ⟨1, 45, none⟩), .pointer (some a), .int .u64 409])).run Tryd.prog w = .ok (some (45, a, 409)) w := by kernel_rfl
theorem as_partsB (a : Addr) (w : World) : (ReflectliteValue.parts (.agg #[.pointer (some ⟨1, 45, none⟩), .pointer (some a), .int .u64 153])).run Tryd.prog w = .ok (some (45, a, 153)) w := by kernel_rfl
theorem as_direct (w : World) : (Rtype.directlyAssignable 45 45).run Tryd.prog w = .ok true w := by kernel_rfl
theorem as_size (w : World) : (sizeOf 45).run Tryd.prog w = .ok 1 w := by kernel_rfl
theorem as_set (ta b : Addr) (x : Int) (old : Value) (W : World) (hb : W.cell? b = some (.int .i64 x)) (ht : W.cell? ta = some old) (hf : W.frozen? ta = false) :
    (ReflectliteValue.set #[.agg #[.pointer (some ⟨1, 45, none⟩), .pointer (some ta), .int .u64 409], .agg #[.pointer (some ⟨1, 45, none⟩), .pointer (some b), .int .u64 153]]).run Tryd.prog W = .ok (.tuple #[]) (W.setCell ta (.int .i64 x)) := by
  rw [show ReflectliteValue.set #[.agg #[.pointer (some ⟨1, 45, none⟩), .pointer (some ta), .int .u64 409], .agg #[.pointer (some ⟨1, 45, none⟩), .pointer (some b), .int .u64 153]] = (ReflectliteValue.parts (.agg #[.pointer (some ⟨1, 45, none⟩), .pointer (some ta), .int .u64 409]) >>= fun _y => ReflectliteValue.parts (.agg #[.pointer (some ⟨1, 45, none⟩), .pointer (some b), .int .u64 153]) >>= _) from rfl]
  simp only [Sem.run_bind, as_partsA, as_partsB, Result.andThen]
  simp [ReflectliteValue.flagAddr, loadVar, isAgg, underlying, Tryd.underlying45, hb, Result.andThen, as_direct, storeVar, Value.cells, storeCells, Addr.add, as_size, loadCells, loadCellsFrom]
  rw [run_store Tryd.prog W ta _ _ (by rfl)]
  simp [ht, hf]
end Go.Proofs.YtdifgiceallpiaaDoor.Hd
end
section
namespace Go.Proofs.YtdifgiceallpiaaDoor.Hd
open Go Go.RowKit Go.Extern.Stop Go.Stop Go.Extern Go.Proofs.YtdifgiceallpiaaDoorW.PrintWords Go.Proofs.YtdifgiceallpiaaDoorW.PrintLast Go.Proofs.YtdifgiceallpiaaDoor.Hw
set_option maxHeartbeats 4000000 in
theorem as_hit (x : Int) (t : Addr) (old : Value) (w : World) (hg : w.cell? ⟨0, 0, none⟩ = some (.iface 111 (.agg #[.pointer (some ⟨1, 41, none⟩)]))) (ht0 : w.cell? t = some old) (hf0 : w.frozen? t = false) :
    Calls Tryd.prog 20 #[.iface 45 (.agg #[.int .i64 x]), .iface 47 (.pointer (some t))] w fun ev w' => ev = .returned (.bool true) ∧ w' = ((((w.alloc (.cells #[.pointer (some t)] 47)).alloc (.cells #[.pointer (some ⟨1, 47, none⟩), .pointer (some ⟨w.heap.size, 0, none⟩), .int .u64 150] 76)).alloc (.cells #[.pointer (some ⟨1, 47, none⟩), .pointer (some ⟨w.heap.size, 0, none⟩), .int .u64 150] 76)).alloc (.cells #[.int .i64 x] 45)).setCell t (.int .i64 x) := by
  have h6 := @run_callFunc_extern Tryd.prog 43 _ (fun args => ReflectliteValue.unpack (args.getD 0 (.tuple #[]))) Tryd.func43 (by kernel_rfl) (by kernel_rfl) (by kernel_rfl) (by kernel_rfl)
  have h7 := @run_callFunc_extern Tryd.prog 44 _ (ReflectliteValue.methodAny (ReflectliteValue.valueError "reflectlite.Value.Type" 0) (fun t _ _ _ => ReflectliteType.toType t)) Tryd.func44 (by kernel_rfl) (by kernel_rfl) (by kernel_rfl) (by kernel_rfl)
  have h8 := @run_callFunc_extern Tryd.prog 45 _ (ReflectliteValue.method (ReflectliteValue.valueError "reflectlite.Value.IsNil" 0) ReflectliteValue.isNil) Tryd.func45 (by kernel_rfl) (by kernel_rfl) (by kernel_rfl) (by kernel_rfl)
  have h27 := @run_callFunc_extern Tryd.prog 100 _ (ReflectliteType.abiMethod fun t => do pure (.int .u8 (← Rtype.kind t))) Tryd.func100 (by kernel_rfl) (by kernel_rfl) (by kernel_rfl) (by kernel_rfl)
  have h37 := @run_callFunc_extern Tryd.prog 110 _ (ReflectliteType.method ReflectliteType.elem) Tryd.func110 (by kernel_rfl) (by kernel_rfl) (by kernel_rfl) (by kernel_rfl)
  have h38 := @run_callFunc_extern Tryd.prog 111 _ (ReflectliteType.relation "Implements" ReflectliteType.implements_) Tryd.func111 (by kernel_rfl) (by kernel_rfl) (by kernel_rfl) (by kernel_rfl)
  have h10 := @run_callFunc_extern Tryd.prog 64 _ ReflectliteType.typeOf Tryd.func64 (by kernel_rfl) (by kernel_rfl) (by kernel_rfl) (by kernel_rfl)
  have h35 := @run_callFunc_extern Tryd.prog 108 _ (ReflectliteType.relation "AssignableTo" ReflectliteType.assignableTo) Tryd.func108 (by kernel_rfl) (by kernel_rfl) (by kernel_rfl) (by kernel_rfl)
  have h11 := @run_callFunc_extern Tryd.prog 65 _ (ReflectliteValue.method (ReflectliteValue.valueError "reflectlite.Value.Elem" 0) ReflectliteValue.elem) Tryd.func65 (by kernel_rfl) (by kernel_rfl) (by kernel_rfl) (by kernel_rfl)
  have h12 := @run_callFunc_extern Tryd.prog 66 _ ReflectliteValue.set Tryd.func66 (by kernel_rfl) (by kernel_rfl) (by kernel_rfl) (by kernel_rfl)
  have tO := as_typeOf
  have mA := as_mAssign
  have aB := as_assign
  have vB := as_valB
  have f6 := as_valT
  have f7 := as_typT
  have mK := as_mKind
  have mE := as_mElem
  have mI := as_mImpl
  have kT := as_kindT
  have kB := as_kindB
  have eT := as_elemT
  have iB := as_implB
  have n8 := as_isNil ⟨w.heap.size, 0, none⟩ t ((w.alloc (.cells #[.pointer (some t)] 47)).alloc (.cells #[.pointer (some ⟨1, 47, none⟩), .pointer (some ⟨w.heap.size, 0, none⟩), .int .u64 150] 76)) (by simp)
  have hlt : 0 < w.heap.size := by
    rcases Nat.eq_zero_or_pos w.heap.size with h0 | h
    · simp [World.cell?, h0] at hg
    · exact h
  have hg2 : ((w.alloc (.cells #[.pointer (some t)] 47)).alloc (.cells #[.pointer (some ⟨1, 47, none⟩), .pointer (some ⟨w.heap.size, 0, none⟩), .int .u64 150] 76)).cell? ⟨0, 0, none⟩ = some (.iface 111 (.agg #[.pointer (some ⟨1, 41, none⟩)])) := by
    rw [World.cell?_alloc_lt _ _ ⟨0, 0, none⟩ (by simp), World.cell?_alloc_lt _ _ ⟨0, 0, none⟩ hlt]; exact hg
  have htl : t.block < w.heap.size := by
    rcases Nat.lt_or_ge t.block w.heap.size with h | h
    · exact h
    · simp [World.cell?, Array.getElem?_eq_none h] at ht0
  have el := as_elemV ⟨w.heap.size, 0, none⟩ t (((w.alloc (.cells #[.pointer (some t)] 47)).alloc (.cells #[.pointer (some ⟨1, 47, none⟩), .pointer (some ⟨w.heap.size, 0, none⟩), .int .u64 150] 76)).alloc (.cells #[.pointer (some ⟨1, 47, none⟩), .pointer (some ⟨w.heap.size, 0, none⟩), .int .u64 150] 76)) (by rw [World.cell?_alloc_lt _ _ ⟨w.heap.size, 0, none⟩ (by simp; omega)]; simp)
  have st := as_set t ⟨w.heap.size + 1 + 1 + 1, 0, none⟩ x old ((((w.alloc (.cells #[.pointer (some t)] 47)).alloc (.cells #[.pointer (some ⟨1, 47, none⟩), .pointer (some ⟨w.heap.size, 0, none⟩), .int .u64 150] 76)).alloc (.cells #[.pointer (some ⟨1, 47, none⟩), .pointer (some ⟨w.heap.size, 0, none⟩), .int .u64 150] 76)).alloc (.cells #[.int .i64 x] 45))
    (by rw [World.cell?_alloc_at _ _ _ _ (by simp)]; rfl)
    (by rw [World.cell?_alloc_lt _ _ t (by simp; omega), World.cell?_alloc_lt _ _ t (by simp; omega), World.cell?_alloc_lt _ _ t (by simp; omega), World.cell?_alloc_lt _ _ t htl]; exact ht0)
    (by rw [World.frozen?_alloc_old _ _ t (by simp; omega), World.frozen?_alloc_old _ _ t (by simp; omega), World.frozen?_alloc_old _ _ t (by simp; omega), World.frozen?_alloc_old _ _ t (Nat.ne_of_lt htl)]; exact hf0)
  go_enter Tryd.func20, Tryd.ntmps20
  go_wp2
  refine wp_loop_rounds 1 ?_
  rw [rounds_succ]
  go_wp2
  go_ret
  exact ⟨rfl, rfl⟩
end Go.Proofs.YtdifgiceallpiaaDoor.Hd
end
section
namespace Go.Proofs.YtdifgiceallpiaaDoor.Hd
open Go Go.RowKit Go.Proofs.YtdifgiceallpiaaDoorW.PrintWords Go.Proofs.YtdifgiceallpiaaDoorW.PrintLast Go.Proofs.YtdifgiceallpiaaDoorW.PrintMore Go.Proofs.YtdifgiceallpiaaDoor.Hw Go.Proofs.YtdifgiceallpiaaDoor.Com Go.Proofs.YtdifgiceallpiaaDoor.P Go.Proofs.YtdifgiceallpiaaDoor.Pure
attribute [local go_sem] za9 za8 zbi zbj za0 za1 zba zbb
/-- What the package-level variable of errors reads as. -/
def ErrT (W : World) : Prop := W.cell? ⟨0, 0, none⟩ = some (.iface 111 (.agg #[.pointer (some ⟨1, 41, none⟩)]))
theorem ErrT.below {W W1 : World} (h : ErrT W) (b : Below W.heap.size W W1) : ErrT W1 := by
  have hlt : 0 < W.heap.size := by
    rcases Nat.eq_zero_or_pos W.heap.size with h0 | h1
    · unfold ErrT at h
      simp [World.cell?, h0] at h
    · exact h1
  have e := b.block 0 hlt
  unfold ErrT at h ⊢
  unfold World.cell? at h ⊢
  simp only [e]
  exact h
theorem infoBad : (Tryd.prog.info? 45).map (fun i => (i.zero, i.size, i.bytes)) = some (some (.agg #[.int .i64 0]), 1, 8) := by kernel_rfl
theorem zeroBad : (Value.agg #[.int .i64 0]).cells = ints .i64 [0] := rfl
theorem as_at (x : Int) (g : Nat) (w0 w : World) (hg : ErrT w) (hb : Blk w g .i64 45 [0]) (h0 : Below w0.heap.size w0 w) (hn : w0.heap.size ≤ g) :
    Calls Tryd.prog 20 #[.iface 45 (.agg #[.int .i64 x]), .iface 47 (.pointer (some ⟨g, 0, none⟩))] w fun e w' => e = .returned (.bool true) ∧ Blk w' g .i64 45 [x] ∧ Below w0.heap.size w0 w' := by
  refine (as_hit x ⟨g, 0, none⟩ _ w hg (hb.cell 0 (by decide)) (hb.free 0)).mono ?_
  rintro e w' ⟨rfl, rfl⟩
  exact ⟨rfl, ((((hb.alloc _).alloc _).alloc _).alloc _).put 0 x, zat (zac (zac (zac (zac h0 _) _) _) _) hn⟩
set_option maxHeartbeats 8000000 in
set_option maxRecDepth 100000 in
theorem read_short (s s1 s2 rest : ByteArray) (n0 n1 n2 : Int) (w : World) (r0 : rdS s 5 = (n0, s1, 0)) (r1 : rdS s1 5 = (n1, s2, 0)) (r2 : rdS s2 5 = (n2, rest, 3)) :
    Calls Tryd.prog 19 #[.string s] w fun e w' => e = .returned (.tuple #[.string ⟨#[]⟩, .iface 45 (.agg #[.int .i64 3])]) ∧ Below w.heap.size w w' := by
  have R0 := zaa.mk r0
  have R1 := zaa.mk r1
  have R2 := zaa.mk r2
  clear r0 r1 r2
  go_enter Tryd.func19, Tryd.ntmps19
  go_wp2_with (first
    | (go_at_call 37; (with_reducible refine (numbers_short s s1 s2 rest n0 n1 n2 _ R0.out R1.out R2.out).mono ?_); rintro e w1 ⟨rfl, hB⟩; have B1 := zaa.mk hB; clear hB)
    | ((with_reducible refine zay (N := 4) rfl ?_); refine zcs rfl rfl infoA3 .i64 _ zeroA3 ?_; intro g4 w2 G4 K4 B2; have GE := zaa.mk (Nat.le_trans B1.out.size G4.out); have B3 := zaa.mk (zaf B1.out B2.out); clear B1 B2 G4)
    | ((with_reducible refine zbx (t := 33) (p := 4) rfl ?_); refine store_blk rfl 33 (.tmp 4) (.tmp 21) rfl g4 .i64 _ [n0, n1, 0] rfl rfl K4.out sizeA3 rfl ?_; intro w5 K5 E5; have B5 := zaa.mk (below_grown B3.out E5.out GE.out B3.out.size); clear K4 E5 B3))
  go_ret2
  exact ⟨rfl, B5.out⟩
set_option maxHeartbeats 8000000 in
set_option maxRecDepth 100000 in
/-- Read, where read gives a text, or the reason. -/
theorem Read_ok (s y : ByteArray) (w : World) (h : Calls Tryd.prog 19 #[.string s] w fun e w' => e = .returned (.tuple #[.string y, .nilIface]) ∧ Below w.heap.size w w') :
    Calls Tryd.prog 8 #[.string s] w fun e w' => e = .returned (.tuple #[.string y, .int .i64 0]) ∧ Below w.heap.size w w' := by
  have H := zaa.mk h
  clear h
  go_enter Tryd.func8, Tryd.ntmps8
  go_wp2_with (first
    | (go_at_call 19; (with_reducible refine H.out.mono ?_); rintro e w1 ⟨rfl, hB⟩; have B1 := zaa.mk hB; clear hB H)
    | ((with_reducible refine zay (N := 6) rfl ?_); refine zcs rfl rfl infoBad .i64 _ zeroBad ?_; intro g6 w2 G6 K6 B2; have B3 := zaa.mk (zaf B1.out B2.out); clear B1 B2 G6)
    | (go_at_call 20; (with_reducible refine (as_nil _ _).mono ?_); rintro e w3 ⟨rfl, rfl⟩))
  go_ret2
  exact ⟨rfl, B3.out⟩
set_option maxHeartbeats 8000000 in
set_option maxRecDepth 100000 in
theorem Read_bad (s : ByteArray) (x : Int) (w : World) (hg : ErrT w) (h : Calls Tryd.prog 19 #[.string s] w fun e w' => e = .returned (.tuple #[.string ⟨#[]⟩, .iface 45 (.agg #[.int .i64 x])]) ∧ Below w.heap.size w w') :
    Calls Tryd.prog 8 #[.string s] w fun e w' => e = .returned (.tuple #[.string ⟨#[]⟩, .int .i64 x]) ∧ Below w.heap.size w w' := by
  have H := zaa.mk h
  have HG := zaa.mk hg
  clear h hg
  go_enter Tryd.func8, Tryd.ntmps8
  go_wp2_with (first
    | (go_at_call 19; (with_reducible refine H.out.mono ?_); rintro e w1 ⟨rfl, hB⟩; have B1 := zaa.mk hB; have HG := zaa.mk (HG.out.below hB); clear hB H)
    | ((with_reducible refine zay (N := 6) rfl ?_); refine zcs rfl rfl infoBad .i64 _ zeroBad ?_; intro g6 w2 G6 K6 B2; have GE := zaa.mk (Nat.le_trans B1.out.size G6.out); have B3 := zaa.mk (zaf B1.out B2.out); have HG := zaa.mk (HG.out.below B2.out); clear B1 B2 G6)
    | (go_at_call 20; (with_reducible refine (as_at x g6 w _ HG.out K6.out B3.out GE.out).mono ?_); rintro e w3 ⟨rfl, hK, hB⟩; have B4 := zaa.mk hB; have c6 := hK.cell 0 (show 0 < 1 by decide); clear hK hB))
  repeat (go_quiet (fail); try go_wp2)
  go_ret2
  exact ⟨rfl, zab B4.out _⟩
end Go.Proofs.YtdifgiceallpiaaDoor.Hd
end
section
namespace Go.Proofs.YtdifgiceallpiaaDoor.Hd
open Go Go.RowKit Go.Proofs.YtdifgiceallpiaaDoorW.PrintWords Go.Proofs.YtdifgiceallpiaaDoorW.PrintLast Go.Proofs.YtdifgiceallpiaaDoorW.PrintMore Go.Proofs.YtdifgiceallpiaaDoor.Hw Go.Proofs.YtdifgiceallpiaaDoor.Com Go.Proofs.YtdifgiceallpiaaDoor.P Go.Proofs.YtdifgiceallpiaaDoor.Pure
attribute [local go_sem] za9 za8 zbi zbj za0 za1 zba zbb
@[reducible] def ban : ByteArray := ⟨#[98, 97, 110, 97, 110, 97, 32, 98, 97, 110, 97, 110, 97, 32, 98, 97, 110, 97, 110, 97, 32, 98, 97, 110, 97, 110, 97, 32, 98, 97, 110, 97, 110, 97, 32, 98, 97, 110, 97, 110, 97]⟩
theorem toList_len (s : ByteArray) : s.toList.length = s.size := by rw [ByteArray.toList_eq]; simp
theorem app_none (s : ByteArray) : s ++ (⟨#[]⟩ : ByteArray) = s := ByteArray.append_empty
theorem read_back (s : ByteArray) (w : World) (hs : s.size ≤ 65536) : Calls Tryd.prog 8 #[.string (putT s)] w fun e w' => e = .returned (.tuple #[.string s, .int .i64 0]) ∧ Below w.heap.size w w' := by
  have hN := nums_put hs ⟨#[]⟩
  rw [app_none (putT s)] at hN
  have := read_at (putT s) s ⟨#[]⟩ true w hs hN (beq_self_eq_true _)
  exact Read_ok _ s w this
theorem read_more (s T : ByteArray) (w : World) (hg : ErrT w) (hs : s.size ≤ 65536) (hT : 0 < T.size) : Calls Tryd.prog 8 #[.string (putT s ++ T)] w fun e w' => e = .returned (.tuple #[.string ⟨#[]⟩, .int .i64 4]) ∧ Below w.heap.size w w' := by
  have hb : ((putT s).toList == (putT s ++ T).toList) = false := by
    rw [beq_eq_false_iff_ne]
    intro h
    have := congrArg List.length h
    rw [toList_len, toList_len, ByteArray.size_append] at this
    omega
  exact Read_bad _ 4 w hg (read_at (putT s ++ T) s T false w hs (nums_put hs T) hb)
theorem put_none (w : World) : Calls Tryd.prog 6 #[.string ⟨#[]⟩] w fun e w' => e = .returned (.tuple #[.string ⟨#[0, 0, 0]⟩, .int .i64 0]) ∧ Below w.heap.size w w' := by
  have h := put_ok ⟨#[]⟩ w (by decide)
  rw [show putT ⟨#[]⟩ = ⟨#[0, 0, 0]⟩ by decide +kernel] at h
  exact h
theorem put_ban (T : ByteArray) (hT : putT ban = T) (w : World) : Calls Tryd.prog 6 #[.string ⟨#[98, 97, 110, 97, 110, 97, 32, 98, 97, 110, 97, 110, 97, 32, 98, 97, 110, 97, 110, 97, 32, 98, 97, 110, 97, 110, 97, 32, 98, 97, 110, 97, 110, 97, 32, 98, 97, 110, 97, 110, 97]⟩] w fun e w' => e = .returned (.tuple #[.string T, .int .i64 0]) ∧ Below w.heap.size w w' := by
  subst hT
  exact put_ok ban w (by decide)
theorem read_ban (T : ByteArray) (hT : putT ban = T) (w : World) : Calls Tryd.prog 8 #[.string T] w fun e w' => e = .returned (.tuple #[.string ⟨#[98, 97, 110, 97, 110, 97, 32, 98, 97, 110, 97, 110, 97, 32, 98, 97, 110, 97, 110, 97, 32, 98, 97, 110, 97, 110, 97, 32, 98, 97, 110, 97, 110, 97, 32, 98, 97, 110, 97, 110, 97]⟩, .int .i64 0]) ∧ Below w.heap.size w w' := by
  subst hT
  exact read_back ban w (by decide)
theorem read_bany (T : ByteArray) (hT : putT ban = T) (w : World) (hg : ErrT w) : Calls Tryd.prog 8 #[.string (T ++ ⟨#[121]⟩)] w fun e w' => e = .returned (.tuple #[.string ⟨#[]⟩, .int .i64 4]) ∧ Below w.heap.size w w' := by
  subst hT
  exact read_more ban ⟨#[121]⟩ w hg (by decide) (by decide)
theorem read_00 (w : World) (hg : ErrT w) : Calls Tryd.prog 8 #[.string ⟨#[0, 0]⟩] w fun e w' => e = .returned (.tuple #[.string ⟨#[]⟩, .int .i64 3]) ∧ Below w.heap.size w w' :=
  Read_bad _ 3 w hg (read_short ⟨#[0, 0]⟩ ⟨#[0]⟩ ⟨#[]⟩ ⟨#[]⟩ 0 0 0 w (by decide +kernel) (by decide +kernel) (by decide +kernel))
theorem ban_size : (putT ban).size < 41 := by decide +kernel
set_option maxHeartbeats 8000000 in
set_option maxRecDepth 100000 in
theorem awake_at (w : World) (hg : ErrT w) : Calls Tryd.prog 5 #[] w fun e w' => e = .returned (.bool true) ∧ Below w.heap.size w w' := by
  have hz := ban_size
  obtain ⟨T, hT⟩ : ∃ T, putT ban = T := ⟨_, rfl⟩
  rw [hT] at hz
  have t1 : decide ((T.size : Int) < 41) = true := decide_eq_true (by omega)
  have t1b : decide (T.size < 41) = true := decide_eq_true hz
  have s1 : (9223372036854775807 < T.size + 1) = False := eq_false (by omega)
  have s2 : (9223372036854775807 < T.size + (⟨#[121]⟩ : ByteArray).size) = False := eq_false (by have : (⟨#[121]⟩ : ByteArray).size = 1 := rfl; omega)
  have HT := zaa.mk hT
  have HG := zaa.mk hg
  clear hz hT hg
  go_enter Tryd.func5, Tryd.ntmps5
  go_wp2_with (first
    | (go_at_call 6; (with_reducible refine (put_none _).mono ?_); rintro e w1 ⟨rfl, hB⟩; have B := zaa.mk hB; have HG := zaa.mk (HG.out.below hB); clear hB)
    | (go_at_call 6; (with_reducible refine (put_ban T HT.out _).mono ?_); rintro e w2 ⟨rfl, hB⟩; have HG := zaa.mk (HG.out.below hB); have B := zaa.mk (zaf B.out hB); clear hB)
    | (go_at_call 8; (with_reducible refine (read_ban T HT.out _).mono ?_); rintro e w3 ⟨rfl, hB⟩; have HG := zaa.mk (HG.out.below hB); have B := zaa.mk (zaf B.out hB); clear hB)
    | (go_at_call 8; (with_reducible refine (read_00 _ HG.out).mono ?_); rintro e w4 ⟨rfl, hB⟩; have HG := zaa.mk (HG.out.below hB); have B := zaa.mk (zaf B.out hB); clear hB)
    | (go_at_call 8; (with_reducible refine (read_bany T HT.out _ HG.out).mono ?_); rintro e w5 ⟨rfl, hB⟩; have HG := zaa.mk (HG.out.below hB); have B := zaa.mk (zaf B.out hB); clear hB))
  go_ret
  exact ⟨rfl, B.out⟩
end Go.Proofs.YtdifgiceallpiaaDoor.Hd
end
