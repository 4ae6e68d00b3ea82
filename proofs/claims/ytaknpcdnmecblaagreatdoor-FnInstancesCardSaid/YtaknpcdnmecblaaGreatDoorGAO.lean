/- CONTRACTS: the category of a schema with a code: the program's side, walked. -/
import Derived.Test.YtaknpcdnmecblaaGreatDoorGAN
import Derived.Test.YtaknpcdnmecblaaGreatDoorChecked
import Derived.WalkKit
import Derived.LaidEql
import Derived.Stop.Asserts
import Derived.RowKitTokens
namespace Go.D3
open Go Go.RowKit Go.Extern.Stop Go.Stop Go.Extern
set_option maxRecDepth 100000
set_option maxHeartbeats 4000000
theorem OG(t:Value)(w:World) :
  Calls Go.Proofs.Tryz.prog 96 #[.nilIface,t] w fun e w'=>e=.returned (.bool false)/\w'=w:=by
 go_enter Go.Proofs.Tryz.func96,Go.Proofs.Tryz.ntmps96
 go_wp2
 go_ret
 exact⟨rfl,rfl⟩
theorem ON(t:Addr)(w:World):(ReflectliteValue.unpack (.iface 161 (.pointer (some t)))).run Go.Proofs.Tryz.prog w
  = .ok (.agg #[.pointer (some ⟨7,161,none⟩),.pointer (some ⟨w.heap.size,0,none⟩),.int .u64 150]) (w.alloc (.cells #[.pointer (some t)] 161)):=by kernel_rfl
theorem OK(a:Addr)(w:World):(ReflectliteValue.methodAny (ReflectliteValue.valueError "reflectlite.Value.Type" 0) (fun t _ _ _=>ReflectliteType.toType t) #[.agg #[.pointer (some ⟨7,161,none⟩),.pointer (some a),.int .u64 150]]).run Go.Proofs.Tryz.prog w
  = .ok (.iface 307 (.agg #[.pointer (some ⟨7,161,none⟩)])) w:=by kernel_rfl
theorem OE(h:Value)(w:World):(Go.method 514 307 (.agg #[h]) "Kind").run Go.Proofs.Tryz.prog w=.ok (319,h) w:=by kernel_rfl
theorem OA(w:World):((ReflectliteType.abiMethod fun t=>(fun a:Nat=>Value.int IntKind.u8 (a:Int)) <$> Rtype.kind t) #[.pointer (some ⟨7,161,none⟩)]).run Go.Proofs.Tryz.prog w=.ok (.int .u8 22) w:=by kernel_rfl
theorem Oz(w:World):((ReflectliteType.abiMethod fun t=>(fun a:Nat=>Value.int IntKind.u8 (a:Int)) <$> Rtype.kind t) #[.pointer (some ⟨7,159,none⟩)]).run Go.Proofs.Tryz.prog w=.ok (.int .u8 25) w:=by kernel_rfl
theorem JO(z:Sem Value)(f:TypeId->Addr->Nat->Nat->Sem Value)(v:Value) :
  ReflectliteValue.method z f #[v]=(do match<-ReflectliteValue.parts v with | none=>z | some (t,a,fl)=>f t a fl (fl % 32)):=rfl
theorem EP(a:Addr)(w:World):(ReflectliteValue.parts (.agg #[.pointer (some ⟨7,161,none⟩),.pointer (some a),.int .u64 150])).run Go.Proofs.Tryz.prog w=.ok (some (161,a,150)) w:=by kernel_rfl
theorem Oy(a p:Addr)(W:World)(I:W.cell? a=some (.pointer (some p))) :
  (ReflectliteValue.method (ReflectliteValue.valueError "reflectlite.Value.IsNil" 0) ReflectliteValue.isNil #[.agg #[.pointer (some ⟨7,161,none⟩),.pointer (some a),.int .u64 150]]).run Go.Proofs.Tryz.prog W=.ok (.bool false) W:=by
 rw[JO];simp only[Sem.run_bind,EP,Result.andThen];simp[ReflectliteValue.isNil,loadVar,isAgg,underlying,Go.Proofs.Tryz.underlying161,I,Result.andThen]
theorem OC(h:Value)(w:World):(Go.method 514 307 (.agg #[h]) "Elem").run Go.Proofs.Tryz.prog w=.ok (331,.agg #[h]) w:=by kernel_rfl
theorem OD(h:Value)(w:World):(Go.method 514 307 (.agg #[h]) "Implements").run Go.Proofs.Tryz.prog w=.ok (332,.agg #[h]) w:=by kernel_rfl
theorem OB(h:Value)(w:World):(Go.method 514 307 (.agg #[h]) "AssignableTo").run Go.Proofs.Tryz.prog w=.ok (329,.agg #[h]) w:=by kernel_rfl
theorem Ot(w:World):(ReflectliteType.method ReflectliteType.elem #[.agg #[.pointer (some ⟨7,161,none⟩)]]).run Go.Proofs.Tryz.prog w=.ok (.iface 307 (.agg #[.pointer (some ⟨7,159,none⟩)])) w:=by kernel_rfl
theorem Ox(w:World):(ReflectliteType.relation "Implements" ReflectliteType.implements_ #[.agg #[.pointer (some ⟨7,159,none⟩)],.iface 307 (.agg #[.pointer (some ⟨7,155,none⟩)])]).run Go.Proofs.Tryz.prog w=.ok (.bool true) w:=by kernel_rfl
theorem OL(v:Value)(w:World):(ReflectliteType.typeOf #[.iface 159 v]).run Go.Proofs.Tryz.prog w=.ok (.iface 307 (.agg #[.pointer (some ⟨7,159,none⟩)])) w:=by kernel_rfl
theorem On(w:World):(ReflectliteType.relation "AssignableTo" ReflectliteType.assignableTo #[.agg #[.pointer (some ⟨7,159,none⟩)],.iface 307 (.agg #[.pointer (some ⟨7,159,none⟩)])]).run Go.Proofs.Tryz.prog w=.ok (.bool true) w:=by kernel_rfl
theorem OM(e:ByteArray)(w:World):(ReflectliteValue.unpack (.iface 159 (.agg #[.string e]))).run Go.Proofs.Tryz.prog w
  = .ok (.agg #[.pointer (some ⟨7,159,none⟩),.pointer (some ⟨w.heap.size,0,none⟩),.int .u64 153]) (w.alloc (.cells #[.string e] 159)):=by kernel_rfl
theorem Ou(w:World):(Rtype.elem? 161).run Go.Proofs.Tryz.prog w=.ok (some 159) w:=by kernel_rfl
theorem OF(p:Addr)(w:World):(ReflectliteValue.mk 159 p ReflectliteValue.flagAddr).run Go.Proofs.Tryz.prog w=.ok (.agg #[.pointer (some ⟨7,159,none⟩),.pointer (some p),.int .u64 409]) w:=by kernel_rfl
theorem Ov(a p:Addr)(W:World)(I:W.cell? a=some (.pointer (some p))) :
  (ReflectliteValue.method (ReflectliteValue.valueError "reflectlite.Value.Elem" 0) ReflectliteValue.elem #[.agg #[.pointer (some ⟨7,161,none⟩),.pointer (some a),.int .u64 150]]).run Go.Proofs.Tryz.prog W
    = .ok (.agg #[.pointer (some ⟨7,159,none⟩),.pointer (some p),.int .u64 409]) W:=by
 rw[JO];simp only[Sem.run_bind,EP,Result.andThen];simp[ReflectliteValue.elem,loadVar,isAgg,underlying,Go.Proofs.Tryz.underlying161,I,Result.andThen,Ou,OF]
theorem Zn(v x:Value):ReflectliteValue.set #[v,x]=(do
  let(some (dst,a,fl),some (src,b,_)):=(<-ReflectliteValue.parts v,<-ReflectliteValue.parts x)
   | unsupported (.noEntry "extern/(internal/reflectlite.Value).Set.zeroValue")
  if fl / ReflectliteValue.flagAddr % 2 == 0 then unsupported (.noEntry "extern/(internal/reflectlite.Value).Set.unaddressable")
  let val <-loadVar src b
  if<-Rtype.directlyAssignable dst src then storeVar dst a val
  else if<-Rtype.implements dst src then
   if(<-Rtype.kind src) == 20 then
    match val with
    | .nilIface=>unsupported (.noEntry "extern/reflectlite: a nil value of one interface type handed on as a value of another")
    | _=>storeVar dst a val
   else storeVar dst a (.iface src val)
  else panicString ("reflectlite.Set: value of type "++(<-Rtype.spelt src)++ " is not assignable to type "++(<-Rtype.spelt dst))
  pure (.tuple #[])):=rfl
theorem OI(a:Addr)(w:World):(ReflectliteValue.parts (.agg #[.pointer (some ⟨7,159,none⟩),.pointer (some a),.int .u64 409])).run Go.Proofs.Tryz.prog w=.ok (some (159,a,409)) w:=by kernel_rfl
theorem OH(a:Addr)(w:World):(ReflectliteValue.parts (.agg #[.pointer (some ⟨7,159,none⟩),.pointer (some a),.int .u64 153])).run Go.Proofs.Tryz.prog w=.ok (some (159,a,153)) w:=by kernel_rfl
theorem Oo(w:World):(Rtype.directlyAssignable 159 159).run Go.Proofs.Tryz.prog w=.ok true w:=by kernel_rfl
theorem Om(w:World):(isAgg 159).run Go.Proofs.Tryz.prog w=.ok true w:=by kernel_rfl
theorem ER(w:World):(sizeOf 159).run Go.Proofs.Tryz.prog w=.ok 1 w:=by kernel_rfl
theorem OJ(I b:Addr)(e:ByteArray)(old:Value)(W:World)(Y:W.cell? b=some (.string e))(ht:W.cell? I=some old)(Z:W.frozen? I=false) :
  (ReflectliteValue.set #[.agg #[.pointer (some ⟨7,159,none⟩),.pointer (some I),.int .u64 409],.agg #[.pointer (some ⟨7,159,none⟩),.pointer (some b),.int .u64 153]]).run Go.Proofs.Tryz.prog W
    = .ok (.tuple #[]) (W.setCell I (.string e)):=by
 have V:(loadVar 159 b).run Go.Proofs.Tryz.prog W=.ok (.agg #[.string e]) W:=by
  unfold loadVar
  have hl:(loadCells b 1).run Go.Proofs.Tryz.prog W=.ok #[.string e] W:=run_loadCells_list W b [.string e] fun j v S=>by
   cases j with
   | zero=>simp only[List.getElem?_cons_zero,Option.some.injEq] at S;subst S;exact Y
   | succ j=>simp at S
  simp only[Sem.run_bind,Om,ER,Result.andThen,if_true,hl];rfl
 have aK:(storeVar 159 I (.agg #[.string e])).run Go.Proofs.Tryz.prog W=.ok () (W.setCell I (.string e)):=by
  unfold storeVar;simp only[Sem.run_bind,ER,Result.andThen];rw[if_neg (show ¬(Value.agg #[Value.string e]).cells.size≠1 from fun h=>h rfl)];show(storeCells I [Value.string e]).run _ W=_;simp only[storeCells,Sem.run_bind,Addr.add,if_true];rw[run_store Go.Proofs.Tryz.prog W I _ _ (by rfl)];simp[ht,Z,Result.andThen]
 rw[Zn];simp only[Sem.run_bind,OI,OH,Result.andThen];simp[ReflectliteValue.flagAddr,V,Result.andThen,Oo,aK]
theorem Ow(e:ByteArray)(t:Addr)(old:Value)(w:World)(hg:w.cell? ⟨0,0,none⟩=some (.iface 307 (.agg #[.pointer (some ⟨7,155,none⟩)])))(I:w.cell? t=some old)(V:w.frozen? t=false) :
  Calls Go.Proofs.Tryz.prog 96 #[.iface 159 (.agg #[.string e]),.iface 161 (.pointer (some t))] w fun Z w'=>Z=.returned (.bool true)/\w'=((((w.alloc (.cells #[.pointer (some t)] 161)).alloc (.cells #[.pointer (some ⟨7,161,none⟩),.pointer (some ⟨w.heap.size,0,none⟩),.int .u64 150] 251)).alloc (.cells #[.pointer (some ⟨7,161,none⟩),.pointer (some ⟨w.heap.size,0,none⟩),.int .u64 150] 251)).alloc (.cells #[.string e] 159)).setCell t (.string e):=by
 have h6:=@run_callFunc_extern Go.Proofs.Tryz.prog 172 _ (fun args=>ReflectliteValue.unpack (args.getD 0 (.tuple #[]))) Go.Proofs.Tryz.func172 (by kernel_rfl) (by kernel_rfl) (by kernel_rfl) (by kernel_rfl);have h7:=@run_callFunc_extern Go.Proofs.Tryz.prog 173 _ (ReflectliteValue.methodAny (ReflectliteValue.valueError "reflectlite.Value.Type" 0) (fun t _ _ _=>ReflectliteType.toType t)) Go.Proofs.Tryz.func173 (by kernel_rfl) (by kernel_rfl) (by kernel_rfl) (by kernel_rfl);have h8:=@run_callFunc_extern Go.Proofs.Tryz.prog 174 _ (ReflectliteValue.method (ReflectliteValue.valueError "reflectlite.Value.IsNil" 0) ReflectliteValue.isNil) Go.Proofs.Tryz.func174 (by kernel_rfl) (by kernel_rfl) (by kernel_rfl) (by kernel_rfl);have ao:=@run_callFunc_extern Go.Proofs.Tryz.prog 319 _ (ReflectliteType.abiMethod fun t=>do pure (.int .u8 (<-Rtype.kind t))) Go.Proofs.Tryz.func319 (by kernel_rfl) (by kernel_rfl) (by kernel_rfl) (by kernel_rfl);have a1:=@run_callFunc_extern Go.Proofs.Tryz.prog 331 _ (ReflectliteType.method ReflectliteType.elem) Go.Proofs.Tryz.func331 (by kernel_rfl) (by kernel_rfl) (by kernel_rfl) (by kernel_rfl);have a6:=@run_callFunc_extern Go.Proofs.Tryz.prog 332 _ (ReflectliteType.relation "Implements" ReflectliteType.implements_) Go.Proofs.Tryz.func332 (by kernel_rfl) (by kernel_rfl) (by kernel_rfl) (by kernel_rfl);have ab:=@run_callFunc_extern Go.Proofs.Tryz.prog 233 _ ReflectliteType.typeOf Go.Proofs.Tryz.func233 (by kernel_rfl) (by kernel_rfl) (by kernel_rfl) (by kernel_rfl);have ax:=@run_callFunc_extern Go.Proofs.Tryz.prog 329 _ (ReflectliteType.relation "AssignableTo" ReflectliteType.assignableTo) Go.Proofs.Tryz.func329 (by kernel_rfl) (by kernel_rfl) (by kernel_rfl) (by kernel_rfl);have ad:=@run_callFunc_extern Go.Proofs.Tryz.prog 234 _ (ReflectliteValue.method (ReflectliteValue.valueError "reflectlite.Value.Elem" 0) ReflectliteValue.elem) Go.Proofs.Tryz.func234 (by kernel_rfl) (by kernel_rfl) (by kernel_rfl) (by kernel_rfl)
 have ag:=@run_callFunc_extern Go.Proofs.Tryz.prog 235 _ ReflectliteValue.set Go.Proofs.Tryz.func235 (by kernel_rfl) (by kernel_rfl) (by kernel_rfl) (by kernel_rfl);have tO:=OL;have mA:=OB;have a25:=On;have v25:=OM;have f6:=ON;have f7:=OK;have mK:=OE;have mE:=OC;have mI:=OD;have bg:=OA;have a8:=Oz;have Y:=Ot;have i25:=Ox;have n8:=Oy ⟨w.heap.size,0,none⟩ t ((w.alloc (.cells #[.pointer (some t)] 161)).alloc (.cells #[.pointer (some ⟨7,161,none⟩),.pointer (some ⟨w.heap.size,0,none⟩),.int .u64 150] 251)) (by simp)
 have W : 0<w.heap.size:=by
  rcases Nat.eq_zero_or_pos w.heap.size with h0 | h
  ·simp[World.cell?,h0] at hg
  ·exact h
 have a7:((w.alloc (.cells #[.pointer (some t)] 161)).alloc (.cells #[.pointer (some ⟨7,161,none⟩),.pointer (some ⟨w.heap.size,0,none⟩),.int .u64 150] 251)).cell? ⟨0,0,none⟩=some (.iface 307 (.agg #[.pointer (some ⟨7,155,none⟩)])):=by
  rw[World.cell?_alloc_lt _ _ ⟨0,0,none⟩ (by simp),World.cell?_alloc_lt _ _ ⟨0,0,none⟩ W];exact hg
 have S:t.block<w.heap.size:=by
  rcases Nat.lt_or_ge t.block w.heap.size with h | h
  ·exact h
  ·simp[World.cell?,Array.getElem?_eq_none h] at I
 have el:=Ov ⟨w.heap.size,0,none⟩ t (((w.alloc (.cells #[.pointer (some t)] 161)).alloc (.cells #[.pointer (some ⟨7,161,none⟩),.pointer (some ⟨w.heap.size,0,none⟩),.int .u64 150] 251)).alloc (.cells #[.pointer (some ⟨7,161,none⟩),.pointer (some ⟨w.heap.size,0,none⟩),.int .u64 150] 251)) (by rw[World.cell?_alloc_lt _ _ ⟨w.heap.size,0,none⟩ (by simp;omega)];simp)
 have st:=OJ t ⟨w.heap.size+1+1+1,0,none⟩ e old ((((w.alloc (.cells #[.pointer (some t)] 161)).alloc (.cells #[.pointer (some ⟨7,161,none⟩),.pointer (some ⟨w.heap.size,0,none⟩),.int .u64 150] 251)).alloc (.cells #[.pointer (some ⟨7,161,none⟩),.pointer (some ⟨w.heap.size,0,none⟩),.int .u64 150] 251)).alloc (.cells #[.string e] 159))
  (by rw[World.cell?_alloc_at _ _ _ _ (by simp)];rfl)
  (by rw[World.cell?_alloc_lt _ _ t (by simp;omega),World.cell?_alloc_lt _ _ t (by simp;omega),World.cell?_alloc_lt _ _ t (by simp;omega),World.cell?_alloc_lt _ _ t S];exact I)
  (by rw[World.frozen?_alloc_old _ _ t (by simp;omega),World.frozen?_alloc_old _ _ t (by simp;omega),World.frozen?_alloc_old _ _ t (by simp;omega),World.frozen?_alloc_old _ _ t (Nat.ne_of_lt S)];exact V)
 go_enter Go.Proofs.Tryz.func96,Go.Proofs.Tryz.ntmps96
 go_wp2
 refine wp_loop_rounds 1 ?_;rw[rounds_succ]
 go_wp2
 go_ret
 exact⟨rfl,rfl⟩
end Go.D3
namespace Go.D3
open Go Go.RowKit Go.Extern.Stop Go.Stop Go.Extern
set_option maxRecDepth 100000
set_option maxHeartbeats 4000000
theorem Pg{w:World}{v:Value}(h:w.cell? ⟨0,0,none⟩=some v) : 0<w.heap.size:=by
 rcases Nat.eq_zero_or_pos w.heap.size with I | h1
 ·simp[World.cell?,I] at h
 ·exact h1
theorem Wy(v:Value)(w:World)(Φ:Addr->World->Prop)(S:Calls Go.Proofs.Tryz.prog 95 #[v] w fun e w'=>∃a,e=.returned (.tuple #[.pointer (some a),.nilIface])/\Φ a w') :
  Calls Go.Proofs.Tryz.prog 41 #[v] w fun e I=>∃a w',e=.returned (.tuple #[.pointer (some a),.int .i64 0])/\Φ a w'/\∃s t,I=w'.alloc (.cells #[.string s] t):=by
 go_enter Go.Proofs.Tryz.func41,Go.Proofs.Tryz.ntmps41
 go_wp2_with (first
  | (go_at_call 95;refine S.mono ?_;rintro e w' ⟨a,rfl,V⟩)
  | (go_at_call 96;refine(OG _ _).mono ?_;rintro e w' ⟨rfl,rfl⟩))
 all_goals go_ret2
 exact⟨a,w',rfl,V,_,_,rfl⟩
theorem Wx(v:Value)(w:World)(Φ:World->Prop)(S:Calls Go.Proofs.Tryz.prog 95 #[v] w fun e w'=>∃s,e=.returned (.tuple #[.pointer none,.iface 159 (.agg #[.string s])])/\Φ w'/\w'.cell? ⟨0,0,none⟩=some (.iface 307 (.agg #[.pointer (some ⟨7,155,none⟩)]))) :
  Calls Go.Proofs.Tryz.prog 41 #[v] w fun e I=>∃w',e=.returned (.tuple #[.pointer none,.int .i64 3])/\Φ w'/\w'.heap.size<=I.heap.size/\(∀c,c<w'.heap.size->I.heap[c]?=w'.heap[c]?)/\I.os=w'.os/\I.tape=w'.tape/\I.output=w'.output:=by
 go_enter Go.Proofs.Tryz.func41,Go.Proofs.Tryz.ntmps41
 go_wp2_with (first
  | (go_at_call 95;refine S.mono ?_;rintro e w' ⟨s,rfl,W,hg⟩;have V:=Pg hg)
  | (go_at_call 96;refine(Ow s ⟨w'.heap.size,0,none⟩ (.string ⟨#[]⟩) (w'.alloc (.cells #[.string ⟨#[]⟩] 159)) (by rw[World.cell?_alloc_lt _ _ ⟨0,0,none⟩ V];exact hg) (by rw[World.cell?_alloc_at _ _ _ _ (by simp)];rfl) (by simp only[World.frozen?,heap_alloc_new];rfl)).mono ?_;rintro e w' ⟨rfl,rfl⟩))
 all_goals go_ret2
 refine⟨w',rfl,W,by simp;omega,fun c S=>?_,rfl,rfl,rfl⟩;rw[Go.heap_alloc_old _ _ (by simp;omega),Go.heap_alloc_old _ _ (by simp;omega),Go.heap_alloc_old _ _ (by simp;omega),Go.heap_alloc_old _ _ (by simp;omega),Go.heap_alloc_old _ _ S]
noncomputable def nr(s:aa):D:=match s.cn with
 | some x=>.av [x.pD s,.int .i64 0]
 | none=>.av [.bd,.int .i64 3]
theorem wR{s:aa}{x:aW}(h:s.cn=some x):nr s=.av [x.pD s,.int .i64 0]:=by unfold nr;rw[h]
theorem WU{s:aa}(h:s.cn=none):nr s=.av [.bd,.int .i64 3]:=by unfold nr;rw[h]
theorem I5{w:World}{A:Nat->Prop}{v:Value}{x y:D}(h:Rd w A v (.av [x,y])):∃a b,v=.tuple #[a,b]/\Rd w A a x/\Rd w A b y:=by
 cases h with
 | @av cs _ S hr =>
  have I:cs.size=2:=S;obtain⟨l⟩:=cs
  match l,I with
  | [a,b],_=>exact⟨a,b,rfl,hr 0 _ rfl,hr 1 _ rfl⟩
theorem I3{w:World}{A:Nat->Prop}{a b:Value}{x y:D}(h1:Rd w A a x)(S:Rd w A b y):Rd w A (.tuple #[a,b]) (.av [x,y]):=by
 refine .av rfl fun j d I=>?_
 match j with
 | 0=>cases I;exact h1
 | 1=>cases I;exact S
 | _+2=>cases I
theorem w7(s:aa)(h:s.ok=true):aA Go.Proofs.Tryz.prog 41 [.v (.ptr s.cells)] (.vw (nr s)):=by
 intro w A vs Fs hg hA hn ad bT bF
 have hE:∀j b,¬Fs j b:=fun j b W=>by
  have:=(bF j b W).2.2
  match j,this with
  | 0,_=>exact(ad 0 _ rfl).2 b W
 have a6:vs=#[vs.getD 0 undef]:=by
  match vs,hn with
  | ⟨[x]⟩,_=>rfl
 have hv:Rd w A (vs.getD 0 undef) (.ptr s.cells):=(ad 0 _ rfl).1
 have ao:=(YF s h).2 w A vs (fun _=>undef) (fun _ _=>False) hg hA hn (fun j a hj=>by
  match j with
  | 0=>cases hj;exact .rd hv
  | _+1=>cases hj) (fun k=>Pl.dead) (fun _ _ _ h=>h) (fun _ _ _ _ h=>h.elim) fun _ _ h=>h.elim
 have fin:∀{e:Ending}{w' I:World}{v:Value}{A':Nat->Prop},e=.returned v->w.heap.size<=w'.heap.size->(∀b,b<w.heap.size->w'.heap[b]?=w.heap[b]?)->w'.os=w.os->w'.tape=w.tape->w'.output=w.output->w'.heap.size<=I.heap.size->(∀b,b<w'.heap.size->I.heap[b]?=w'.heap[b]?)->I.os=w'.os->I.tape=w'.tape->I.output=w'.output ->
   (∀b,A' b->A b\/(w.heap.size<=b/\b<w'.heap.size))->Rd I A' v (nr s) ->
   ∃(v:Value)(F:Nat->Prop)(S:Nat->Nat->Prop),e=.returned v/\w.heap.size<=I.heap.size /\
   aq I (fun b=>A b\/(w.heap.size<=b/\b<I.heap.size/\¬F b/\∀j,¬S j b)) v (.vw (nr s)) F /\
   (∀(j:Nat)(a:Arg),[Arg.v (D.ptr s.cells)][j]?=some a->a.post I (fun b=>A b\/(w.heap.size<=b/\b<I.heap.size/\¬F b/\∀j,¬S j b)) (vs.getD j undef) (S j)) /\
   (∀b,F b->b<I.heap.size/\(w.heap.size<=b\/∃j,Fs j b)/\∀j,¬S j b)/\(∀j b,S j b->b<I.heap.size/\(w.heap.size<=b\/∃j,Fs j b)/\j < [Arg.v (D.ptr s.cells)].length)/\(∀i j b,i≠j->S i b->¬S j b) /\
   (∀b,b<w.heap.size->(∀j,¬Fs j b)->I.heap[b]?=w.heap[b]?)/\I.os=w.os/\I.tape=w.tape/\c6 w I:=by
  intro e w' I v A' he h1 Z h3 h4 h5 g1 g2 g3 g4 g5 bg hr;refine⟨v,fun _=>False,fun _ _=>False,he,by omega,.vw (hr.mono (fun b W=>(bg b W).imp id fun hh=>⟨hh.1,by omega,id,fun _=>id⟩) fun _ _=>rfl),fun j a hj=>?_,fun _ h=>h.elim,fun _ _ h=>h.elim,fun _ _ _ _ h=>h.elim,fun b W _=>(g2 b (by omega)).trans (Z b W),g3.trans h3,g4.trans h4,Il (g5.trans h5)⟩
  match j with
  | 0=>cases hj;exact fun _ h=>h
  | _+1=>cases hj
 rw[a6] at ao
 conv=>arg 3;rw[a6]
 cases hp:s.cn with
 | some x =>
  refine(Wy _ w (fun a w'=>w.heap.size<=w'.heap.size/\(∀b,b<w.heap.size->w'.heap[b]?=w.heap[b]?)/\w'.os=w.os/\w'.tape=w.tape/\w'.output=w.output/\Rd w' (fun b=>A b\/(w.heap.size<=b/\b<w'.heap.size)) (.pointer (some a)) (x.pD s)) (ao.mono ?_)).mono ?_
  ·rintro e w' ⟨rc,a7,v,F,a8,S,⟨rfl,l,rfl,hq⟩,rfl,ax,hc,_,_,_,_,_,_,_,V,ag,Y,ab⟩
   rcases hq with⟨y,rfl,hy⟩ | ⟨m,rfl,a1⟩
   rotate_left
   ·rw[hp] at a1;cases a1
   obtain rfl:y=x:=by rw[hp] at hy;injection hy with hy;exact hy.symm
   obtain⟨a,b,rfl,h1,Z⟩:=I5 (po hc ⟨trivial,trivial,trivial⟩);cases Z
   obtain⟨q,rfl⟩:∃q,a=.pointer (some q):=by
    unfold aW.pD at h1;cases h1;exact⟨_,rfl⟩
   exact⟨q,rfl,ax,fun b W=>V b W fun _ h=>h,ag,Y,ab.1,h1.mono (fun b W=>W.imp id fun hh=>⟨hh.1,hh.2.1⟩) fun _ _=>rfl⟩
  ·rintro e I ⟨a,w',he,⟨h1,Z,h3,h4,h5,h6⟩,t,ty,rfl⟩
   refine fin (w':=w') he h1 Z h3 h4 h5 (by simp) (fun b W=>Go.heap_alloc_old _ _ W) rfl rfl rfl (fun _ h=>h) ?_;unfold nr;rw[hp];exact I3 (h6.mono (fun _ h=>h) fun b W=>Go.heap_alloc_old _ _ (W.elim (fun ha=>by have:=hA b ha;omega) fun hh=>hh.2)) (.int (qb (k:=.i64) (n:=0) rfl))
 | none =>
  refine(Wx _ w (fun w'=>w.heap.size<=w'.heap.size/\(∀b,b<w.heap.size->w'.heap[b]?=w.heap[b]?)/\w'.os=w.os/\w'.tape=w.tape/\w'.output=w.output) (ao.mono ?_)).mono ?_
  ·rintro e w' ⟨rc,a7,v,F,a8,S,⟨rfl,l,rfl,hq⟩,rfl,ax,hc,_,_,_,_,_,_,_,V,ag,Y,ab⟩
   rcases hq with⟨y,rfl,hy⟩ | ⟨m,rfl,_⟩
   ·rw[hp] at hy;cases hy
   obtain⟨a,b,rfl,h1,Z⟩:=I5 (po hc ⟨trivial,trivial,trivial⟩);cases h1
   obtain⟨q,rfl⟩:∃q,b=.iface 159 (.agg #[.string q]):=by
    cases Z with
    | bE Z =>
     cases Z with
     | @agg cs _ hs hr =>
      have h3:cs.size=1:=hs;obtain⟨l⟩:=cs
      match l,h3 with
      | [u],_ =>
       have:=hr 0 _ rfl;cases this;exact⟨_,rfl⟩
   refine⟨q,rfl,⟨ax,fun b W=>V b W fun _ h=>h,ag,Y,ab.1⟩,?_⟩;rw[cell_of_heap (V 0 (hA 0 hg.F6.2) fun _ h=>h)];exact hg.F6.1
  ·rintro e I ⟨w',he,⟨h1,Z,h3,h4,h5⟩,g1,g2,g3,g4,g5⟩
   refine fin (w':=w') (A':=fun _=>False) he h1 Z h3 h4 h5 g1 g2 g3 g4 g5 (fun _ h=>h.elim) ?_;unfold nr;rw[hp];exact I3 .bd (.int (qb (k:=.i64) (n:=3) rfl))
end Go.D3
