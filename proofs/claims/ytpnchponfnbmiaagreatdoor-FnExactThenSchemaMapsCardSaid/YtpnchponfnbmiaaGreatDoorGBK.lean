/- errors.As at a struct of one text: contracts. The walks are turned from the kit's worked ToyasAs. -/
import Derived.Test.YtpnchponfnbmiaaGreatDoorGBJ
import Derived.Test.YtpnchponfnbmiaaGreatDoorChecked
import Derived.WalkKit
import Derived.LaidEql
import Derived.Stop.Asserts
import Derived.RowKitTokens
namespace Go.D3
open Go Go.RowKit Go.Extern.Stop Go.Stop Go.Extern
set_option maxRecDepth 100000
set_option maxHeartbeats 4000000
theorem KY(t:Value)(w:World) :
  Calls Go.Proofs.Tryz.prog 116 #[.nilIface,t] w fun e w'=>e=.returned (.bool false)/\w'=w:=by
 go_enter Go.Proofs.Tryz.func116,Go.Proofs.Tryz.ntmps116
 go_wp2
 go_ret
 exact⟨rfl,rfl⟩
theorem K6(t:Addr)(w:World):(ReflectliteValue.unpack (.iface 183 (.pointer (some t)))).run Go.Proofs.Tryz.prog w
  = .ok (.agg #[.pointer (some ⟨10,183,none⟩),.pointer (some ⟨w.heap.size,0,none⟩),.int .u64 150]) (w.alloc (.cells #[.pointer (some t)] 183)):=by kernel_rfl
theorem K3(a:Addr)(w:World):(ReflectliteValue.methodAny (ReflectliteValue.valueError "reflectlite.Value.Type" 0) (fun t _ _ _=>ReflectliteType.toType t) #[.agg #[.pointer (some ⟨10,183,none⟩),.pointer (some a),.int .u64 150]]).run Go.Proofs.Tryz.prog w
  = .ok (.iface 264 (.agg #[.pointer (some ⟨10,183,none⟩)])) w:=by kernel_rfl
theorem KW(h:Value)(w:World):(Go.method 506 264 (.agg #[h]) "Kind").run Go.Proofs.Tryz.prog w=.ok (292,h) w:=by kernel_rfl
theorem KS(w:World):((ReflectliteType.abiMethod fun t=>(fun a:Nat=>Value.int IntKind.u8 (a:Int)) <$> Rtype.kind t) #[.pointer (some ⟨10,183,none⟩)]).run Go.Proofs.Tryz.prog w=.ok (.int .u8 22) w:=by kernel_rfl
theorem KR(w:World):((ReflectliteType.abiMethod fun t=>(fun a:Nat=>Value.int IntKind.u8 (a:Int)) <$> Rtype.kind t) #[.pointer (some ⟨10,181,none⟩)]).run Go.Proofs.Tryz.prog w=.ok (.int .u8 25) w:=by kernel_rfl
theorem Hk(z:Sem Value)(f:TypeId->Addr->Nat->Nat->Sem Value)(v:Value) :
  ReflectliteValue.method z f #[v]=(do match<-ReflectliteValue.parts v with | none=>z | some (t,a,fl)=>f t a fl (fl % 32)):=rfl
theorem Ci(a:Addr)(w:World):(ReflectliteValue.parts (.agg #[.pointer (some ⟨10,183,none⟩),.pointer (some a),.int .u64 150])).run Go.Proofs.Tryz.prog w=.ok (some (183,a,150)) w:=by kernel_rfl
theorem KQ(a p:Addr)(W:World)(ha:W.cell? a=some (.pointer (some p))) :
  (ReflectliteValue.method (ReflectliteValue.valueError "reflectlite.Value.IsNil" 0) ReflectliteValue.isNil #[.agg #[.pointer (some ⟨10,183,none⟩),.pointer (some a),.int .u64 150]]).run Go.Proofs.Tryz.prog W=.ok (.bool false) W:=by
 rw[Hk];simp only[Sem.run_bind,Ci,Result.andThen];simp[ReflectliteValue.isNil,loadVar,isAgg,underlying,Go.Proofs.Tryz.underlying183,ha,Result.andThen]
theorem KU(h:Value)(w:World):(Go.method 506 264 (.agg #[h]) "Elem").run Go.Proofs.Tryz.prog w=.ok (303,.agg #[h]) w:=by kernel_rfl
theorem KV(h:Value)(w:World):(Go.method 506 264 (.agg #[h]) "Implements").run Go.Proofs.Tryz.prog w=.ok (304,.agg #[h]) w:=by kernel_rfl
theorem KT(h:Value)(w:World):(Go.method 506 264 (.agg #[h]) "AssignableTo").run Go.Proofs.Tryz.prog w=.ok (301,.agg #[h]) w:=by kernel_rfl
theorem KL(w:World):(ReflectliteType.method ReflectliteType.elem #[.agg #[.pointer (some ⟨10,183,none⟩)]]).run Go.Proofs.Tryz.prog w=.ok (.iface 264 (.agg #[.pointer (some ⟨10,181,none⟩)])) w:=by kernel_rfl
theorem KP(w:World):(ReflectliteType.relation "Implements" ReflectliteType.implements_ #[.agg #[.pointer (some ⟨10,181,none⟩)],.iface 264 (.agg #[.pointer (some ⟨10,177,none⟩)])]).run Go.Proofs.Tryz.prog w=.ok (.bool true) w:=by kernel_rfl
theorem K4(v:Value)(w:World):(ReflectliteType.typeOf #[.iface 181 v]).run Go.Proofs.Tryz.prog w=.ok (.iface 264 (.agg #[.pointer (some ⟨10,181,none⟩)])) w:=by kernel_rfl
theorem KJ(w:World):(ReflectliteType.relation "AssignableTo" ReflectliteType.assignableTo #[.agg #[.pointer (some ⟨10,181,none⟩)],.iface 264 (.agg #[.pointer (some ⟨10,181,none⟩)])]).run Go.Proofs.Tryz.prog w=.ok (.bool true) w:=by kernel_rfl
theorem K5(e:ByteArray)(w:World):(ReflectliteValue.unpack (.iface 181 (.agg #[.string e]))).run Go.Proofs.Tryz.prog w
  = .ok (.agg #[.pointer (some ⟨10,181,none⟩),.pointer (some ⟨w.heap.size,0,none⟩),.int .u64 153]) (w.alloc (.cells #[.string e] 181)):=by kernel_rfl
theorem KM(w:World):(Rtype.elem? 183).run Go.Proofs.Tryz.prog w=.ok (some 181) w:=by kernel_rfl
theorem KX(p:Addr)(w:World):(ReflectliteValue.mk 181 p ReflectliteValue.flagAddr).run Go.Proofs.Tryz.prog w=.ok (.agg #[.pointer (some ⟨10,181,none⟩),.pointer (some p),.int .u64 409]) w:=by kernel_rfl
theorem KN(a p:Addr)(W:World)(ha:W.cell? a=some (.pointer (some p))) :
  (ReflectliteValue.method (ReflectliteValue.valueError "reflectlite.Value.Elem" 0) ReflectliteValue.elem #[.agg #[.pointer (some ⟨10,183,none⟩),.pointer (some a),.int .u64 150]]).run Go.Proofs.Tryz.prog W
    = .ok (.agg #[.pointer (some ⟨10,181,none⟩),.pointer (some p),.int .u64 409]) W:=by
 rw[Hk];simp only[Sem.run_bind,Ci,Result.andThen];simp[ReflectliteValue.elem,loadVar,isAgg,underlying,Go.Proofs.Tryz.underlying183,ha,Result.andThen,KM,KX]
theorem T3(v x:Value):ReflectliteValue.set #[v,x]=(do
  let(some (dst,a,fl),some (src,b,_)):=(<-ReflectliteValue.parts v,<-ReflectliteValue.parts x)
   | unsupported (.noEntry "extern/(internal/reflectlite.Value).Set.zeroValue")
  if fl / ReflectliteValue.flagAddr % 2 == 0 then unsupported (.noEntry "extern/(internal/reflectlite.Value).Set.unaddressable")
  let val <-loadVar src b
  if<-Rtype.directlyAssignable dst src then storeVar dst a val
  else if<-Rtype.implements dst src then
   if(<-Rtype.kind src) == 20 then
    match val with
    | .nilIface=>unsupported (.noEntry "extern/reflectlite: a nil value of one interface type handed on as a value of another")
    | _=>storeVar dst a val
   else storeVar dst a (.iface src val)
  else panicString ("reflectlite.Set: value of type "++(<-Rtype.spelt src)++ " is not assignable to type "++(<-Rtype.spelt dst))
  pure (.tuple #[])):=rfl
theorem K0(a:Addr)(w:World):(ReflectliteValue.parts (.agg #[.pointer (some ⟨10,181,none⟩),.pointer (some a),.int .u64 409])).run Go.Proofs.Tryz.prog w=.ok (some (181,a,409)) w:=by kernel_rfl
theorem KZ(a:Addr)(w:World):(ReflectliteValue.parts (.agg #[.pointer (some ⟨10,181,none⟩),.pointer (some a),.int .u64 153])).run Go.Proofs.Tryz.prog w=.ok (some (181,a,153)) w:=by kernel_rfl
theorem KK(w:World):(Rtype.directlyAssignable 181 181).run Go.Proofs.Tryz.prog w=.ok true w:=by kernel_rfl
theorem KI(w:World):(isAgg 181).run Go.Proofs.Tryz.prog w=.ok true w:=by kernel_rfl
theorem Cj(w:World):(sizeOf 181).run Go.Proofs.Tryz.prog w=.ok 1 w:=by kernel_rfl
theorem K1(ta b:Addr)(e:ByteArray)(old:Value)(W:World)(hb:W.cell? b=some (.string e))(ht:W.cell? ta=some old)(hf:W.frozen? ta=false) :
  (ReflectliteValue.set #[.agg #[.pointer (some ⟨10,181,none⟩),.pointer (some ta),.int .u64 409],.agg #[.pointer (some ⟨10,181,none⟩),.pointer (some b),.int .u64 153]]).run Go.Proofs.Tryz.prog W
    = .ok (.tuple #[]) (W.setCell ta (.string e)):=by
 have hld:(loadVar 181 b).run Go.Proofs.Tryz.prog W=.ok (.agg #[.string e]) W:=by
  unfold loadVar
  have hl:(loadCells b 1).run Go.Proofs.Tryz.prog W=.ok #[.string e] W:=run_loadCells_list W b [.string e] fun j v hj=>by
   cases j with
   | zero=>simp only[List.getElem?_cons_zero,Option.some.injEq] at hj;subst hj;exact hb
   | succ j=>simp at hj
  simp only[Sem.run_bind,KI,Cj,Result.andThen,if_true,hl];rfl
 have aI:(storeVar 181 ta (.agg #[.string e])).run Go.Proofs.Tryz.prog W=.ok () (W.setCell ta (.string e)):=by
  unfold storeVar;simp only[Sem.run_bind,Cj,Result.andThen];rw[if_neg (show ¬(Value.agg #[Value.string e]).cells.size≠1 from fun h=>h rfl)];show(storeCells ta [Value.string e]).run _ W=_;simp only[storeCells,Sem.run_bind,Addr.add,if_true];rw[run_store Go.Proofs.Tryz.prog W ta _ _ (by rfl)];simp[ht,hf,Result.andThen]
 rw[T3];simp only[Sem.run_bind,K0,KZ,Result.andThen];simp[ReflectliteValue.flagAddr,hld,Result.andThen,KK,aI]
theorem KO(e:ByteArray)(t:Addr)(old:Value)(w:World)(hg:w.cell? ⟨0,0,none⟩=some (.iface 264 (.agg #[.pointer (some ⟨10,177,none⟩)])))(ht0:w.cell? t=some old)(hf0:w.frozen? t=false) :
  Calls Go.Proofs.Tryz.prog 116 #[.iface 181 (.agg #[.string e]),.iface 183 (.pointer (some t))] w fun ev w'=>ev=.returned (.bool true)/\w'=((((w.alloc (.cells #[.pointer (some t)] 183)).alloc (.cells #[.pointer (some ⟨10,183,none⟩),.pointer (some ⟨w.heap.size,0,none⟩),.int .u64 150] 219)).alloc (.cells #[.pointer (some ⟨10,183,none⟩),.pointer (some ⟨w.heap.size,0,none⟩),.int .u64 150] 219)).alloc (.cells #[.string e] 181)).setCell t (.string e):=by
 have h6:=@run_callFunc_extern Go.Proofs.Tryz.prog 147 _ (fun args=>ReflectliteValue.unpack (args.getD 0 (.tuple #[]))) Go.Proofs.Tryz.func147 (by kernel_rfl) (by kernel_rfl) (by kernel_rfl) (by kernel_rfl);have h7:=@run_callFunc_extern Go.Proofs.Tryz.prog 148 _ (ReflectliteValue.methodAny (ReflectliteValue.valueError "reflectlite.Value.Type" 0) (fun t _ _ _=>ReflectliteType.toType t)) Go.Proofs.Tryz.func148 (by kernel_rfl) (by kernel_rfl) (by kernel_rfl) (by kernel_rfl);have h8:=@run_callFunc_extern Go.Proofs.Tryz.prog 149 _ (ReflectliteValue.method (ReflectliteValue.valueError "reflectlite.Value.IsNil" 0) ReflectliteValue.isNil) Go.Proofs.Tryz.func149 (by kernel_rfl) (by kernel_rfl) (by kernel_rfl) (by kernel_rfl);have h27:=@run_callFunc_extern Go.Proofs.Tryz.prog 292 _ (ReflectliteType.abiMethod fun t=>do pure (.int .u8 (<-Rtype.kind t))) Go.Proofs.Tryz.func292 (by kernel_rfl) (by kernel_rfl) (by kernel_rfl) (by kernel_rfl);have h37:=@run_callFunc_extern Go.Proofs.Tryz.prog 303 _ (ReflectliteType.method ReflectliteType.elem) Go.Proofs.Tryz.func303 (by kernel_rfl) (by kernel_rfl) (by kernel_rfl) (by kernel_rfl);have h38:=@run_callFunc_extern Go.Proofs.Tryz.prog 304 _ (ReflectliteType.relation "Implements" ReflectliteType.implements_) Go.Proofs.Tryz.func304 (by kernel_rfl) (by kernel_rfl) (by kernel_rfl) (by kernel_rfl);have h10:=@run_callFunc_extern Go.Proofs.Tryz.prog 187 _ ReflectliteType.typeOf Go.Proofs.Tryz.func187 (by kernel_rfl) (by kernel_rfl) (by kernel_rfl) (by kernel_rfl);have h35:=@run_callFunc_extern Go.Proofs.Tryz.prog 301 _ (ReflectliteType.relation "AssignableTo" ReflectliteType.assignableTo) Go.Proofs.Tryz.func301 (by kernel_rfl) (by kernel_rfl) (by kernel_rfl) (by kernel_rfl);have h11:=@run_callFunc_extern Go.Proofs.Tryz.prog 188 _ (ReflectliteValue.method (ReflectliteValue.valueError "reflectlite.Value.Elem" 0) ReflectliteValue.elem) Go.Proofs.Tryz.func188 (by kernel_rfl) (by kernel_rfl) (by kernel_rfl) (by kernel_rfl)
 have h12:=@run_callFunc_extern Go.Proofs.Tryz.prog 189 _ ReflectliteValue.set Go.Proofs.Tryz.func189 (by kernel_rfl) (by kernel_rfl) (by kernel_rfl) (by kernel_rfl);have tO:=K4;have mA:=KT;have a25:=KJ;have v25:=K5;have f6:=K6;have f7:=K3;have mK:=KW;have mE:=KU;have mI:=KV;have k27:=KS;have k25:=KR;have e27:=KL;have i25:=KP;have n8:=KQ ⟨w.heap.size,0,none⟩ t ((w.alloc (.cells #[.pointer (some t)] 183)).alloc (.cells #[.pointer (some ⟨10,183,none⟩),.pointer (some ⟨w.heap.size,0,none⟩),.int .u64 150] 219)) (by simp)
 have hlt : 0<w.heap.size:=by
  rcases Nat.eq_zero_or_pos w.heap.size with h0 | h
  ·simp[World.cell?,h0] at hg
  ·exact h
 have hg2:((w.alloc (.cells #[.pointer (some t)] 183)).alloc (.cells #[.pointer (some ⟨10,183,none⟩),.pointer (some ⟨w.heap.size,0,none⟩),.int .u64 150] 219)).cell? ⟨0,0,none⟩=some (.iface 264 (.agg #[.pointer (some ⟨10,177,none⟩)])):=by
  rw[World.cell?_alloc_lt _ _ ⟨0,0,none⟩ (by simp),World.cell?_alloc_lt _ _ ⟨0,0,none⟩ hlt];exact hg
 have htl:t.block<w.heap.size:=by
  rcases Nat.lt_or_ge t.block w.heap.size with h | h
  ·exact h
  ·simp[World.cell?,Array.getElem?_eq_none h] at ht0
 have el:=KN ⟨w.heap.size,0,none⟩ t (((w.alloc (.cells #[.pointer (some t)] 183)).alloc (.cells #[.pointer (some ⟨10,183,none⟩),.pointer (some ⟨w.heap.size,0,none⟩),.int .u64 150] 219)).alloc (.cells #[.pointer (some ⟨10,183,none⟩),.pointer (some ⟨w.heap.size,0,none⟩),.int .u64 150] 219)) (by rw[World.cell?_alloc_lt _ _ ⟨w.heap.size,0,none⟩ (by simp;omega)];simp)
 have st:=K1 t ⟨w.heap.size+1+1+1,0,none⟩ e old ((((w.alloc (.cells #[.pointer (some t)] 183)).alloc (.cells #[.pointer (some ⟨10,183,none⟩),.pointer (some ⟨w.heap.size,0,none⟩),.int .u64 150] 219)).alloc (.cells #[.pointer (some ⟨10,183,none⟩),.pointer (some ⟨w.heap.size,0,none⟩),.int .u64 150] 219)).alloc (.cells #[.string e] 181))
  (by rw[World.cell?_alloc_at _ _ _ _ (by simp)];rfl)
  (by rw[World.cell?_alloc_lt _ _ t (by simp;omega),World.cell?_alloc_lt _ _ t (by simp;omega),World.cell?_alloc_lt _ _ t (by simp;omega),World.cell?_alloc_lt _ _ t htl];exact ht0)
  (by rw[World.frozen?_alloc_old _ _ t (by simp;omega),World.frozen?_alloc_old _ _ t (by simp;omega),World.frozen?_alloc_old _ _ t (by simp;omega),World.frozen?_alloc_old _ _ t (Nat.ne_of_lt htl)];exact hf0)
 go_enter Go.Proofs.Tryz.func116,Go.Proofs.Tryz.ntmps116
 go_wp2
 refine wp_loop_rounds 1 ?_;rw[rounds_succ]
 go_wp2
 go_ret
 exact⟨rfl,rfl⟩
end Go.D3
