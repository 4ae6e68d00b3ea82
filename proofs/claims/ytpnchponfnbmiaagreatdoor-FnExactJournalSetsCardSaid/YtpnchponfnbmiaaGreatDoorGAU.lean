/- strings.IndexFunc at "no digit". -/
import Derived.Test.YtpnchponfnbmiaaGreatDoorGAR
import Derived.Test.YtpnchponfnbmiaaGreatDoorChecked
import Derived.WalkKit
import Derived.LaidEql
import Derived.Stop.Asserts
import Derived.RowKitTokens
namespace Go.D3
open Go Go.RowKit Go.Extern.Stop Go.Stop Go.Extern
set_option maxRecDepth 100000
def yc:Array Value->Sem Value:=Extern.ReflectliteType.method fun t=>do Go.Extern.Rtype.noPackHeld "Comparable" t;pure (.bool (<-typeInfo t).comparable)
theorem GI(v:Value)(w:World):(Extern.ReflectliteType.typeOf #[.iface 376 v]).run Go.Proofs.Tryz.prog w=.ok (.iface 264 (.agg #[.pointer (some ⟨10,376,none⟩)])) w:=by kernel_rfl
theorem GD(w:World):(yc #[.agg #[.pointer (some ⟨10,376,none⟩)]]).run Go.Proofs.Tryz.prog w=.ok (.bool true) w:=by kernel_rfl
theorem GF(v:Value)(w:World):(Go.method 506 264 v "Comparable").run Go.Proofs.Tryz.prog w=.ok (302,v) w:=by kernel_rfl
theorem GC:(Go.Proofs.Tryz.prog.info? 376).map (·.comparable)=some true:=by kernel_rfl
theorem GH:(Go.Proofs.Tryz.prog.info? 378).map (·.size)=some 1:=by kernel_rfl
theorem S8(v:Value)(xT:TypeId)(w:World):(Instr.typeAssert (.iface 376 v) xT 339 true).run Go.Proofs.Tryz.prog w=.ok (.tuple #[.nilIface,.bool false]) w:=run_typeAssert_lacksB Go.Proofs.Tryz.underlying339 (by kernel_rfl) (by kernel_rfl) v xT w
theorem S9(v:Value)(xT:TypeId)(w:World):(Instr.typeAssert (.iface 336 v) xT 339 true).run Go.Proofs.Tryz.prog w=.ok (.tuple #[.nilIface,.bool false]) w:=run_typeAssert_lacksB Go.Proofs.Tryz.underlying339 (by kernel_rfl) (by kernel_rfl) v xT w
theorem Tb(v:Value)(xT:TypeId)(w:World):(Instr.typeAssert (.iface 336 v) xT 272 true).run Go.Proofs.Tryz.prog w=.ok (.tuple #[.nilIface,.bool false]) w:=run_typeAssert_lacksB Go.Proofs.Tryz.underlying272 (by kernel_rfl) (by kernel_rfl) v xT w
theorem PY(v:Value)(xT:TypeId)(w:World):(Instr.typeAssert (.iface 336 v) xT 274 true).run Go.Proofs.Tryz.prog w=.ok (.tuple #[.iface 336 v,.bool true]) w:=run_typeAssert_hasB Go.Proofs.Tryz.underlying274 (by kernel_rfl) v xT w
theorem R4(v:Value)(w:World):(Go.method 506 336 v "Unwrap").run Go.Proofs.Tryz.prog w=.ok (312,v) w:=by kernel_rfl
theorem Qq(a:Addr)(w:World) :
  Calls Go.Proofs.Tryz.prog 201 #[.iface 376 (.pointer (some a)),.iface 376 (.pointer (some a))] w fun e w'=>e=.returned (.bool true)/\w'=w:=by
 obtain⟨i,hi,hcmp⟩:=Option.map_eq_some_iff.1 GC;obtain⟨j,hj,hjs⟩:=Option.map_eq_some_iff.1 GH;have h8:=@run_callFunc_extern Go.Proofs.Tryz.prog 187 _ Extern.ReflectliteType.typeOf Go.Proofs.Tryz.func187 (by kernel_rfl) (by kernel_rfl) (by kernel_rfl) (by kernel_rfl);have h32:=@run_callFunc_extern Go.Proofs.Tryz.prog 302 _ yc Go.Proofs.Tryz.func302 (by kernel_rfl) (by kernel_rfl) (by kernel_rfl) (by kernel_rfl);have tT:=GI;have cT:=GD;have mR:=GF;have heq:=run_eql_iface_ptr_same (P:=Go.Proofs.Tryz.prog) w a Go.Proofs.Tryz.underlying177 Go.Proofs.Tryz.underlying376 hi hcmp hj
 go_enter Go.Proofs.Tryz.func201,Go.Proofs.Tryz.ntmps201
 go_wp2
 refine wp_loop_rounds 1 ?_;rw[rounds_succ]
 go_wp2
 go_ret
 exact⟨rfl,rfl⟩
theorem Qp(b:Addr)(w:World) :
  Calls Go.Proofs.Tryz.prog 201 #[.nilIface,.iface 376 (.pointer (some b))] w fun e w'=>e=.returned (.bool false)/\w'=w:=by
 have hn:=run_eql_iface_nil_left (P:=Go.Proofs.Tryz.prog) w 376 (.pointer (some b)) Go.Proofs.Tryz.underlying177
 go_enter Go.Proofs.Tryz.func201,Go.Proofs.Tryz.ntmps201
 go_wp2
 go_ret
 exact⟨rfl,rfl⟩
theorem Qo(pb po sb so n c:Nat)(b:Addr)(w:World)(h1:w.cell? ⟨pb,po,none⟩=some (.slice (some ⟨sb,so,none⟩) n c))(hn : 0<n)(_:n<=maxLen)(h2:w.cell? ⟨sb,so,none⟩=some (.iface 376 (.pointer (some b)))) :
  Calls Go.Proofs.Tryz.prog 201 #[.iface 336 (.pointer (some ⟨pb,po,none⟩)),.iface 376 (.pointer (some b))] w fun e w'=>e=.returned (.bool true)/\w'=w:=by
 obtain⟨i,hi,hcmp⟩:=Option.map_eq_some_iff.1 GC;obtain⟨j,hj,hjs⟩:=Option.map_eq_some_iff.1 GH;have h8:=@run_callFunc_extern Go.Proofs.Tryz.prog 187 _ Extern.ReflectliteType.typeOf Go.Proofs.Tryz.func187 (by kernel_rfl) (by kernel_rfl) (by kernel_rfl) (by kernel_rfl);have h32:=@run_callFunc_extern Go.Proofs.Tryz.prog 302 _ yc Go.Proofs.Tryz.func302 (by kernel_rfl) (by kernel_rfl) (by kernel_rfl) (by kernel_rfl);have tT:=GI;have cT:=GD;have mR:=GF;have nE:=S8;have nJ:=S9;have uJ:=Tb;have hJ:=PY;have mU:=R4;have hlt:(0:Int)<(n:Int):=by omega
 have heq:=run_eql_iface_ptr_same (P:=Go.Proofs.Tryz.prog) w b Go.Proofs.Tryz.underlying177 Go.Proofs.Tryz.underlying376 hi hcmp hj;have hty:=run_eql_iface_types (P:=Go.Proofs.Tryz.prog) 336 376 (.pointer (some ⟨pb,po,none⟩)) (.pointer (some b)) Go.Proofs.Tryz.underlying177 (by decide) w
 go_enter Go.Proofs.Tryz.func201,Go.Proofs.Tryz.ntmps201
 go_wp2
 refine wp_loop_rounds 1 ?_;rw[rounds_succ]
 go_wp2
 refine wp_loop_rounds 1 ?_;rw[rounds_succ]
 go_wp2
 refine wp_loop_rounds 1 ?_;rw[rounds_succ]
 go_wp2
 go_ret
 exact⟨rfl,rfl⟩
end Go.D3
namespace Go.D3
open Go Go.RowKit Go.Extern.Stop Go.Stop Go.Extern
set_option maxRecDepth 100000
def rY(w:World)(l:List Value)(e:Ending)(w':World):Prop :=
 ∃pb sb c,e=.returned (.iface 336 (.pointer (some ⟨pb,0,none⟩)))/\(w.heap.size<=pb/\pb<w'.heap.size/\w.heap.size<=sb/\sb<w'.heap.size)/\w'.cell? ⟨pb,0,none⟩=some (.slice (some ⟨sb,0,none⟩) l.length c)/\l.length<=c/\c<=2/\(∀(j:Nat)(v:Value),l[j]?=some v->w'.cell? ⟨sb,j,none⟩=some v)/\Below w.heap.size w w'
theorem oP(w:World)(o:Obj)(k:Nat):(w.alloc o).heap[k]?=if k=w.heap.size then some o else w.heap[k]?:=by
 show(w.heap.push o)[k]?=_;rw[Array.getElem?_push]
theorem oQ(w:World)(o:Obj):(w.alloc o).heap.size=w.heap.size+1:=by simp
theorem kW{w w':World}{o:Obj}(h:Below w.heap.size w w'):Below w.heap.size w (w'.alloc o) :=
 ⟨h.os,h.tape,h.output,Nat.le_trans h.size (by simp),fun k hk=>(heap_alloc_old _ _ (by have:=h.size;omega)).trans (h.block k hk)⟩
theorem Qx(b o c:Nat)(t1 t2:TypeId)(v1 v2:Value)(w:World)(hb:b<w.heap.size)(h1:w.cell? ⟨b,o,none⟩=some (.iface t1 v1))(h2:w.cell? ⟨b,o+1,none⟩=some (.iface t2 v2)) :
  Calls Go.Proofs.Tryz.prog 227 #[.slice (some ⟨b,o,none⟩) 2 c] w (rY w [.iface t1 v1,.iface t2 v2]):=by
 have n1:=fun(w:World)(t:TypeId)(v:Value)=>run_eql_iface_nil_left (P:=Go.Proofs.Tryz.prog) w t v Go.Proofs.Tryz.underlying177
 have hmk:∀w:World,(Instr.makeSlice 275 (.int .i64 0) (.int .i64 2)).run Go.Proofs.Tryz.prog w=.ok (.slice (some ⟨w.heap.size,0,none⟩) 0 2) (w.alloc (.cells #[.nilIface,.nilIface] 177)):=fun w=>by kernel_rfl
 have c2:∀(x y:Obj)(k:Nat),((w.alloc x).alloc y).cell? ⟨b,k,none⟩=w.cell? ⟨b,k,none⟩:=fun x y k=>cell_of_heap ((heap_alloc_old _ _ (by simp;omega)).trans (heap_alloc_old _ _ hb))
 have c3:∀(x y z:Obj)(k:Nat),(((w.alloc x).alloc y).alloc z).cell? ⟨b,k,none⟩=w.cell? ⟨b,k,none⟩:=fun x y z k=>(cell_of_heap (heap_alloc_old _ _ (by simp;omega))).trans (c2 x y k)
 go_enter Go.Proofs.Tryz.func227,Go.Proofs.Tryz.ntmps227
 go_wp2
 refine wp_loop_rounds 3 ?_;rw[rounds_succ]
 go_wp2
 rw[rounds_succ]
 go_wp2
 rw[rounds_succ]
 go_wp2
 refine wp_loop_rounds 3 ?_;rw[rounds_succ]
 go_wp2
 rw[rounds_succ]
 go_wp2
 rw[rounds_succ]
 go_wp2
 go_ret
 refine⟨w.heap.size+1,w.heap.size,2,rfl,⟨by omega,by simp,Nat.le_refl _,by simp;omega⟩,by simp only[World.cell?,oP,oQ];simp<;>omega,by simp,by omega,fun j v hj=>?_,?_⟩
 ·match j,hj with
  | 0,hj=>simp at hj;subst hj;simp only[World.cell?,oP,oQ];rw[if_neg (by omega),if_neg (by omega),if_neg (by omega),if_pos trivial];rfl
  | 1,hj=>simp at hj;subst hj;simp only[World.cell?,oP,oQ];rw[if_neg (by omega),if_neg (by omega),if_neg (by omega),if_pos trivial];rfl
  | j+2,hj=>simp at hj
 ·exact kW (kW (kW (kW (Below.refl _ _))))
theorem Qy(b o c:Nat)(t1 _:TypeId)(v1 _:Value)(w:World)(hb:b<w.heap.size)(h1:w.cell? ⟨b,o,none⟩=some (.iface t1 v1))(h2:w.cell? ⟨b,o+1,none⟩=some (.nilIface)) :
  Calls Go.Proofs.Tryz.prog 227 #[.slice (some ⟨b,o,none⟩) 2 c] w (rY w [.iface t1 v1]):=by
 have n1:=fun(w:World)(t:TypeId)(v:Value)=>run_eql_iface_nil_left (P:=Go.Proofs.Tryz.prog) w t v Go.Proofs.Tryz.underlying177
 have hmk:∀w:World,(Instr.makeSlice 275 (.int .i64 0) (.int .i64 1)).run Go.Proofs.Tryz.prog w=.ok (.slice (some ⟨w.heap.size,0,none⟩) 0 1) (w.alloc (.cells #[.nilIface] 177)):=fun w=>by kernel_rfl
 have c2:∀(x y:Obj)(k:Nat),((w.alloc x).alloc y).cell? ⟨b,k,none⟩=w.cell? ⟨b,k,none⟩:=fun x y k=>cell_of_heap ((heap_alloc_old _ _ (by simp;omega)).trans (heap_alloc_old _ _ hb))
 have c3:∀(x y z:Obj)(k:Nat),(((w.alloc x).alloc y).alloc z).cell? ⟨b,k,none⟩=w.cell? ⟨b,k,none⟩:=fun x y z k=>(cell_of_heap (heap_alloc_old _ _ (by simp;omega))).trans (c2 x y k)
 go_enter Go.Proofs.Tryz.func227,Go.Proofs.Tryz.ntmps227
 go_wp2
 refine wp_loop_rounds 3 ?_;rw[rounds_succ]
 go_wp2
 rw[rounds_succ]
 go_wp2
 rw[rounds_succ]
 go_wp2
 refine wp_loop_rounds 3 ?_;rw[rounds_succ]
 go_wp2
 rw[rounds_succ]
 go_wp2
 rw[rounds_succ]
 go_wp2
 go_ret
 refine⟨w.heap.size+1,w.heap.size,1,rfl,⟨by omega,by simp,Nat.le_refl _,by simp;omega⟩,by simp only[World.cell?,oP,oQ];simp<;>omega,by simp,by omega,fun j v hj=>?_,?_⟩
 ·match j,hj with
  | 0,hj=>simp at hj;subst hj;simp only[World.cell?,oP,oQ];rw[if_neg (by omega),if_neg (by omega),if_pos trivial];rfl
  | j+1,hj=>simp at hj
 ·exact kW (kW (kW (Below.refl _ _)))
theorem Qz(b o c:Nat)(_ t2:TypeId)(_ v2:Value)(w:World)(hb:b<w.heap.size)(h1:w.cell? ⟨b,o,none⟩=some (.nilIface))(h2:w.cell? ⟨b,o+1,none⟩=some (.iface t2 v2)) :
  Calls Go.Proofs.Tryz.prog 227 #[.slice (some ⟨b,o,none⟩) 2 c] w (rY w [.iface t2 v2]):=by
 have n1:=fun(w:World)(t:TypeId)(v:Value)=>run_eql_iface_nil_left (P:=Go.Proofs.Tryz.prog) w t v Go.Proofs.Tryz.underlying177
 have hmk:∀w:World,(Instr.makeSlice 275 (.int .i64 0) (.int .i64 1)).run Go.Proofs.Tryz.prog w=.ok (.slice (some ⟨w.heap.size,0,none⟩) 0 1) (w.alloc (.cells #[.nilIface] 177)):=fun w=>by kernel_rfl
 have c2:∀(x y:Obj)(k:Nat),((w.alloc x).alloc y).cell? ⟨b,k,none⟩=w.cell? ⟨b,k,none⟩:=fun x y k=>cell_of_heap ((heap_alloc_old _ _ (by simp;omega)).trans (heap_alloc_old _ _ hb))
 have c3:∀(x y z:Obj)(k:Nat),(((w.alloc x).alloc y).alloc z).cell? ⟨b,k,none⟩=w.cell? ⟨b,k,none⟩:=fun x y z k=>(cell_of_heap (heap_alloc_old _ _ (by simp;omega))).trans (c2 x y k)
 go_enter Go.Proofs.Tryz.func227,Go.Proofs.Tryz.ntmps227
 go_wp2
 refine wp_loop_rounds 3 ?_;rw[rounds_succ]
 go_wp2
 rw[rounds_succ]
 go_wp2
 rw[rounds_succ]
 go_wp2
 refine wp_loop_rounds 3 ?_;rw[rounds_succ]
 go_wp2
 rw[rounds_succ]
 go_wp2
 rw[rounds_succ]
 go_wp2
 go_ret
 refine⟨w.heap.size+1,w.heap.size,1,rfl,⟨by omega,by simp,Nat.le_refl _,by simp;omega⟩,by simp only[World.cell?,oP,oQ];simp<;>omega,by simp,by omega,fun j v hj=>?_,?_⟩
 ·match j,hj with
  | 0,hj=>simp at hj;subst hj;simp only[World.cell?,oP,oQ];rw[if_neg (by omega),if_neg (by omega),if_pos trivial];rfl
  | j+1,hj=>simp at hj
 ·exact kW (kW (kW (Below.refl _ _)))
theorem QA(b o c:Nat)(_ _:TypeId)(_ _:Value)(w:World)(_:b<w.heap.size)(h1:w.cell? ⟨b,o,none⟩=some (.nilIface))(h2:w.cell? ⟨b,o+1,none⟩=some (.nilIface)) :
  Calls Go.Proofs.Tryz.prog 227 #[.slice (some ⟨b,o,none⟩) 2 c] w fun e w'=>e=.returned .nilIface/\w'=w:=by
 have n1:=fun(w:World)(t:TypeId)(v:Value)=>run_eql_iface_nil_left (P:=Go.Proofs.Tryz.prog) w t v Go.Proofs.Tryz.underlying177
 go_enter Go.Proofs.Tryz.func227,Go.Proofs.Tryz.ntmps227
 go_wp2
 refine wp_loop_rounds 3 ?_;rw[rounds_succ]
 go_wp2
 rw[rounds_succ]
 go_wp2
 rw[rounds_succ]
 go_wp2
 go_ret
 exact⟨rfl,rfl⟩
end Go.D3
namespace Go.D3
open Go Go.RowKit
set_option maxRecDepth 100000
abbrev eS:D:=.bf 376 (.eo 1)
def gQ(b:Bool):D:=match b with | true=>eS | false=>.aY
theorem mO{w:World}{A:Nat->Prop}{v:Value}(h:Rd w A v eS):∃a t,v=.iface 376 (.pointer (some a))/\A 1/\w.cell? ⟨1,0,none⟩=some (.iface t (.pointer (some a))):=by
 cases h with
 | bf h =>
  cases h with
  | eo hA hc=>exact⟨_,_,rfl,hA,hc⟩
theorem FC{w:World}{a b:Addr}{t u:TypeId}(h1:w.cell? ⟨1,0,none⟩=some (.iface t (.pointer (some a))))(h2:w.cell? ⟨1,0,none⟩=some (.iface u (.pointer (some b)))):a=b:=by
 rw[h1] at h2;simp only[Option.some.injEq,Value.iface.injEq,Value.pointer.injEq] at h2;exact h2.2
theorem Yj:aw Go.Proofs.Tryz.prog 201 [.v .aY,.v eS] (.bool false):=by
 refine mP (xs:=[.aY,eS]) fun w A vs hg hA hvs hpre=>?_
 rw[lS hvs];have e1:vs.getD 0 undef=.nilIface:=by have:=hpre 0 _ rfl;generalize vs.getD 0 undef=v at this;cases this;rfl
 obtain⟨a,t,e2,_,_⟩:=mO (hpre 1 _ rfl);rw[e1,e2];refine(Qp a w).mono ?_;rintro e w' ⟨rfl,rfl⟩;exact⟨_,rfl,.bool,Below.refl _ _⟩
theorem Yl:aw Go.Proofs.Tryz.prog 201 [.v eS,.v eS] (.bool true):=by
 refine mP (xs:=[eS,eS]) fun w A vs hg hA hvs hpre=>?_
 rw[lS hvs];obtain⟨a,t,e1,_,c1⟩:=mO (hpre 0 _ rfl);obtain⟨b,u,e2,_,c2⟩:=mO (hpre 1 _ rfl);rw[e1,e2,FC c1 c2];refine(Qq b w).mono ?_;rintro e w' ⟨rfl,rfl⟩;exact⟨_,rfl,.bool,Below.refl _ _⟩
def iT(l:List D):D:=.bf 336 (.ptr [.slice .aY l])
theorem Yi{r:List D}:aw Go.Proofs.Tryz.prog 201 [.v (iT (eS::r)),.v eS] (.bool true):=by
 refine mP (xs:=[iT (eS::r),eS]) fun w A vs hg hA hvs hpre=>?_
 rw[lS hvs];obtain⟨b,u,e2,_,c2⟩:=mO (hpre 1 _ rfl);have h0:Rd w A (vs.getD 0 undef) (iT (eS::r)):=hpre 0 _ rfl;rw[e2];generalize vs.getD 0 undef=v0 at h0;unfold iT at h0;cases h0 with
 | bf h0 =>
  cases h0 with
  | @ptr pb po l hAb us hcells hr =>
   have hc:=hcells 0 _ rfl;have hs:=hr 0 _ rfl;generalize hL:eS::r=L at hs;generalize us 0=v1 at hc hs;cases hs with
   | nil=>cases hL
   | empty hm=>cases hL
   | @slice z L' sb so cap sz hAs hcc hm hz hzz hsz ws hcs hrs =>
    have hsz1:sz=1:=by simpa[D.cells] using hzz.symm
    subst hsz1;have hca:cellAt L 1 0=some eS:=by rw[<-hL];rfl
    have e3:=hrs 0 _ hca;have c3:=hcs 0 _ hca;obtain⟨b',u',e4,_,c4⟩:=mO e3;rw[e4,FC c4 c2] at c3;refine(Qo pb po sb so L.length cap b w (by simpa using hc) (by rw[<-hL];simp) (by omega) (by simpa using c3)).mono ?_;rintro e w' ⟨rfl,rfl⟩;exact⟨_,rfl,.bool,Below.refl _ _⟩
theorem WR{w w':World}{A':Nat->Prop}{l:List Value}{ds:List D}{e:Ending}(h:rY w l e w')(hl:l.length=ds.length)(hds:∀(j:Nat)(d:D)(v:Value),ds[j]?=some d->l[j]?=some v->d.cells.length=1/\Rd w' A' v d)(hnew:∀b,w.heap.size<=b->b<w'.heap.size->A' b)(hd1:∀d∈ds,d.cells=[d])(_:ds≠[]) :
  ∃v,e=.returned v/\aj w' A' v (iT ds) (fun _=>False)/\Below w.heap.size w w':=by
 obtain⟨pb,sb,c,rfl,⟨n1,n2,n3,n4⟩,hc,hlc,hc2,hcell,hb⟩:=h;refine⟨_,rfl,.bf (.ptr (hnew _ n1 n2) (fun _=>.slice (some ⟨sb,0,none⟩) l.length c) (fun j x hj=>?_) fun j x hj=>?_),hb⟩
 ·match j,hj with
  | 0,_=>simpa using hc
  | j+1,hj=>simp at hj
 ·match j,hj with
  | j+1,hj=>simp at hj
  | 0,hj =>
   simp at hj;subst hj;rw[hl]
   have hcg:∀(j:Nat)(x:D),cellAt ds 1 j=some x->∃v,l[j]?=some v/\ds[j]?=some x:=by
    intro j x hj;unfold cellAt at hj;rw[Nat.div_one,Nat.mod_one] at hj;cases hd:ds[j]? with
    | none=>rw[hd] at hj;cases hj
    | some d =>
     rw[hd] at hj;rw[Option.bind_some,hd1 d (List.mem_of_getElem? hd)] at hj;simp only[List.getElem?_cons_zero,Option.some.injEq] at hj;subst hj;have hlt:=(List.getElem?_eq_some_iff.1 hd).1;exact⟨l[j],List.getElem?_eq_getElem (by omega),rfl⟩
   refine Rd.slice (sz:=1) (hnew _ n3 n4) (by omega) (by simp only[maxLen];omega) (by decide) rfl (fun x hx=>by rw[hd1 x hx];rfl) (fun j=>l.getD j undef) (fun j x hj=>?_) (fun j x hj=>?_)
   ·obtain⟨v,h1,h2⟩:=hcg j x hj
    rw[Nat.zero_add,hcell j v h1,List.getD_eq_getElem?_getD,h1];rfl
   ·obtain⟨v,h1,h2⟩:=hcg j x hj
    rw[List.getD_eq_getElem?_getD,h1];exact(hds j x v h2 h1).2
def kx(a b:Bool):D:=match a,b with
 | false,false=>.aY
 | true,true=>iT [eS,eS]
 | _,_=>iT [eS]
theorem wI{a b:Bool}:fK Go.Proofs.Tryz.prog 227 [.sub 0 []] [.row .aY [gQ a,gQ b]] (kx a b) [.dead]:=by
 refine⟨by decide +kernel,?_⟩;intro w A vs gv Fs hg hA hvs hpre hgpre hgemp hFd hFs;rw[NM hvs];obtain⟨bk,sz,cs,et,hv0,hbc,hcs,_,hsz0,hzz,hsz,hcell,hFb⟩:D0 w A (af w (nth [D.row .aY [gQ a,gQ b]]) gv) (gv 0) (Fs 0) .aY [gQ a,gQ b]:=hgpre 0;have hs1:sz=1:=by simpa[D.cells] using hzz.symm
 subst hs1
 have hval:vs.getD 0 undef=gv 0:=by
  obtain⟨_,hval,_⟩:=dM (hpre 0 _ rfl);simpa[aP] using hval.symm
 have hc1:∀b:Bool,(gQ b).cells=[gQ b]:=fun b=>by cases b<;>rfl
 obtain⟨v1,c1,r1⟩:∃v1,w.cell? ⟨bk,0,none⟩=some v1/\Rd w A v1 (gQ a):=by
  have h1:=(hcell 0 (gQ a) (by unfold cellAt;simp[hc1])).1;refine⟨cs.getD 0 undef,dU hbc (by rw[hcs];simp),?_⟩;cases a<;>exact bU h1 (by intro k p h;cases h) (by intro k p h;cases h) (by intro k p h;cases h) (by intro k h;cases h) (by intro k h;cases h) (by intro k p n h;cases h)
 obtain⟨v2,c2,r2⟩:∃v2,w.cell? ⟨bk,0+1,none⟩=some v2/\Rd w A v2 (gQ b):=by
  have h1:=(hcell 1 (gQ b) (by unfold cellAt;simp[hc1])).1;refine⟨cs.getD 1 undef,dU hbc (by rw[hcs];simp),?_⟩;cases b<;>exact bU h1 (by intro k p h;cases h) (by intro k p h;cases h) (by intro k p h;cases h) (by intro k h;cases h) (by intro k h;cases h) (by intro k p n h;cases h)
 rw[hval,hv0];have hbk:bk<w.heap.size:=(hFs 0 bk hFb).1;refine Calls.mono (R:=fun e w'=>∃v:Value,e=.returned v/\Rd w' (fun b=>A b\/(w.heap.size<=b/\b<w'.heap.size)) v (kx a b)/\Below w.heap.size w w') ?_ ?_
 rotate_left
 ·rintro e w' ⟨v,he,hrd,hb⟩
  have key:∀b,b<w.heap.size->w'.heap[b]?=w.heap[b]?:=fun b h=>hb.block b h
  refine⟨_,_,v,fun _=>False,gv,fun _ _=>False,⟨rfl,rfl⟩,he,hb.size,?_,fun _ _ h=>h,fun k=>?_,fun _ _ _ h=>h,fun _ _=>rfl,fun _ h=>h.elim,fun _ _ h=>h.elim,fun _ _ _ _ h=>h.elim,fun b h _=>key b h,hb.os,hb.tape,rq hb.output⟩
  ·have:=hrd.mono (A':=fun b=>A b\/(w.heap.size<=b/\b<w'.heap.size/\¬False/\∀j:Nat,¬False)) (fun b h=>h.imp id fun h=>⟨h.1,h.2,id,fun _=>id⟩) fun _ _=>rfl
   cases a<;>cases b<;>exact .rd this
  ·match k with
   | 0=>exact Pl.dead
   | _+1=>exact Pl.dead
 show Calls _ _ #[.slice (some ⟨bk,0,none⟩) 2 2] _ _
 have fin:∀{l:List Value}{ds:List D}{e:Ending}{w':World},rY w l e w'->l.length=ds.length->(∀(j:Nat)(d:D)(v:Value),ds[j]?=some d->l[j]?=some v->d=eS/\Rd w A v eS)->ds≠[]->∃v:Value,e=.returned v/\Rd w' (fun b=>A b\/(w.heap.size<=b/\b<w'.heap.size)) v (iT ds)/\Below w.heap.size w w':=by
  intro l ds e w' h hl hd hne;have hb:Below w.heap.size w w':=by obtain⟨_,_,_,_,_,_,_,_,_,hb⟩:=h;exact hb
  obtain⟨v,he,hown,hb⟩:=WR (A':=fun b=>A b\/(w.heap.size<=b/\b<w'.heap.size)) h hl (fun j d v h1 h2=>by obtain⟨rfl,h3⟩:=hd j d v h1 h2;exact⟨rfl,h3.mono (fun _ h=>.inl h) fun b hb'=>hb.block b (hA b hb')⟩) (fun b h1 h2=>.inr ⟨h1,h2⟩)
   (fun d hdm=>by obtain⟨j,hj,rfl⟩:=List.getElem_of_mem hdm;obtain⟨h1,_⟩:=hd j _ (l[j]'(by omega)) (List.getElem?_eq_getElem hj) (List.getElem?_eq_getElem (by omega));rw[h1];rfl) hne
  exact⟨v,he,hown.rd (fun _ h=>h) fun _ h=>h.elim,hb⟩
 cases a<;>cases b
 ·cases r1;cases r2
  refine(QA bk 0 2 0 0 undef undef w hbk c1 c2).mono ?_;rintro e w' ⟨rfl,rfl⟩;exact⟨_,rfl,.aY,Below.refl _ _⟩
 ·cases r1
  obtain⟨a2,t2,rfl,_,_⟩:=mO r2;refine(Qz bk 0 2 0 376 undef _ w hbk c1 c2).mono ?_;intro e w' h;refine fin h rfl (fun j d v h1 h2=>?_) (by simp)
  match j,h1,h2 with
  | 0,h1,h2=>simp at h1 h2;subst h1;subst h2;exact⟨rfl,r2⟩
  | j+1,h1,_=>simp at h1
 ·cases r2
  obtain⟨a2,t2,rfl,_,_⟩:=mO r1;refine(Qy bk 0 2 376 0 _ undef w hbk c1 c2).mono ?_;intro e w' h;refine fin h rfl (fun j d v h1 h2=>?_) (by simp)
  match j,h1,h2 with
  | 0,h1,h2=>simp at h1 h2;subst h1;subst h2;exact⟨rfl,r1⟩
  | j+1,h1,_=>simp at h1
 ·obtain⟨a1,t1,rfl,_,_⟩:=mO r1
  obtain⟨a2,t2,rfl,_,_⟩:=mO r2;refine(Qx bk 0 2 376 376 _ _ w hbk c1 c2).mono ?_;intro e w' h;refine fin h rfl (fun j d v h1 h2=>?_) (by simp)
  match j,h1,h2 with
  | 0,h1,h2=>simp at h1 h2;subst h1;subst h2;exact⟨rfl,r1⟩
  | 1,h1,h2=>simp at h1 h2;subst h1;subst h2;exact⟨rfl,r2⟩
  | j+2,h1,_=>simp at h1
end Go.D3
namespace Go.D3
open Go Go.RowKit Go.Proofs
set_option maxRecDepth 100000
def iX(x:Nat):Bool:=decide (x<48) || decide (57<x)
theorem S7(x:Nat)(hx:x<=1114111)(W:World):FnGives Go.Proofs.Tryz.prog 248 #[] #[encR x] (.bool (iX x)) W:=by
 unfold FnGives;show Calls Go.Proofs.Tryz.prog 248 #[.int .i32 x] W _
 go_enter Go.Proofs.Tryz.func248,Go.Proofs.Tryz.ntmps248
 go_wp2
 all_goals go_ret
 all_goals refine⟨?_,0,rfl⟩
 all_goals simp[iX]
 ·have e1:(decide ((x:Int)<48))=decide (x<48):=decide_eq_decide.2 (by omega)
  have e2:(decide ((57:Int)<(x:Int)))=decide (57<x):=decide_eq_decide.2 (by omega);rw[e1,e2]
 ·omega
theorem Yh{s:List UInt8}:aw Go.Proofs.Tryz.prog 247 [.v (.str s),.v (.fn 248 [])] (.int .i64 (Lib.idxFunc iX true ⟨s.toArray⟩)):=by
 refine mP (xs:=[.str s,.fn 248 []]) fun w A vs hg hA hvs hpre=>?_
 rw[lS hvs];obtain⟨e1,l1⟩:=lK (hpre 0 _ rfl)
 have e2:vs.getD 1 undef=.func (.func 248) #[] #[]:=by
  have:=hpre 1 _ rfl;generalize vs.getD 1 undef=v at this;cases this with
  | @fn f cs l hs hr=>rw[Array.eq_empty_of_size_eq_zero hs]
 rw[e1,e2];refine(Tryz.strings_IndexFunc_runes 248 #[] (fun args w=>by kernel_rfl) iX ⟨s.toArray⟩ w fun W x hx _=>S7 x hx W).mono ?_;rintro e w' ⟨rfl,hb⟩;refine⟨_,rfl,.int ?_,hb⟩;have h:=Lib.idxFuncFrom_range iX true ⟨s.toArray⟩ s.length 0;have hsz:(⟨s.toArray⟩:ByteArray).size=s.length:=by show s.toArray.size=_;simp
 unfold Lib.idxFunc;rw[hsz] at h|-
 simp only[maxLen] at l1;simp[IntKind.has,IntKind.min,IntKind.max,IntKind.signed,IntKind.bits];omega
end Go.D3
