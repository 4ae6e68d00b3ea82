/- CONTRACTS: the objects and arrows of a comma of identities: the program's side, walked, for it ranges over a function. -/
import Derived.Test.YtaknpcdnmecblaaGAN
import Derived.Test.YtaknpcdnmecblaaGAO
import Derived.Test.YtaknpcdnmecblaaGAQ
namespace Go.D3
open Go Proofs
set_option maxRecDepth 100000
set_option maxHeartbeats 4000000
def eT:Code->List Nat->Code
 | c,[]=>c
 | .seq a _,0::r=>eT a r
 | .seq _ b,_::r=>eT b r
 | .block _ c,_::r=>eT c r
 | .loop c,_::r=>eT c r
 | .rangeFunc _ _ a _,0::r=>eT a r
 | .rangeFunc _ _ _ b,_::r=>eT b r
 | c,_=>c
def kF:List Nat:=[1,1,1,0,1,0,0,1,1,0,0,1,1,0,0,1,1,0,0,1,1,0]
def bV:List Nat:=[0,1,4,5,6,7,8,9,10,11,12,29,30,31,39,40,41,50,51,32,42,57]
def bj(c:Cat)(X:List D)(arr:List (List Int))(r1 r2:D):List D:=[.dead,.dead,.aq 24 [(0,0)],.aq 25 [(0,0)],.aq 23 [(0,0)]]++X ++
 [.box [.ptr (aL c).cells,.ptr (aL c).cells,aB (ah c),.o (aB arr)],.box [.aq 22 [(0,0)]],.box [r1],.box [r2]]
def xC(c:Cat)(i j:Int)(p q:List Int)(u v a b t:D):List D:=[.box [.int .i64 i],ints p,.box [.int .i64 j],ints q,u,v,aB (ah c),.int .i64 (ah c).length,.int .i64 i,aB (ah c),.int .i64 (ah c).length,.int .i64 j,a,b,.dead,.dead,t]
def recC(co:Code)(fn:FuncId)(ts:Array Value)(D:Nat)(st:LoopState)(pe:Option Code):Loop:={ state:=st,pending:=pe,fn,tmps:=ts,params:=#[50,51],assign:=eT co (kF++[0]),body:=eT co (kF++[1]),defers:=D }
theorem rB{c:Cat}{X:List D}{arr:List (List Int)}{r1 r2:D}(h:X.length=17):(bj c X arr r1 r2).length=26:=by simp[bj,h]
def jb:List Nat:=[0,1,4,5,6,7,8,9,10,29,30,31,39,40,41]
theorem Hb{c:Cat}{cx:Ctx}{S M:Nat->Prop}{W:World}{i j u v:Int}{p q:List Int}{b:Bool}{arr:List (List Int)}{r1 r2:D}{ts ts':Array Value}(h:Cu cx S bV (bj c (xC c i j p q (.int .i64 u) (.int .i64 v) (.int .i64 u) (.int .i64 v) (.bool b)) arr r1 r2) ts' M W)(hk:∀t∈jb,ts.getD t undef=ts'.getD t undef) :
  Cu cx S bV (bj c (xC c i j p q .dead .dead .dead .dead .dead) arr r1 r2) ts M W :=
 h.Fj fun k=>match k with
  | 0=>.inr ⟨rfl,fun t ht=>by cases ht;exact hk _ (by decide)⟩
  | 1=>.inr ⟨rfl,fun t ht=>by cases ht;exact hk _ (by decide)⟩
  | 2=>.inr ⟨rfl,fun t ht=>by cases ht;exact hk _ (by decide)⟩
  | 3=>.inr ⟨rfl,fun t ht=>by cases ht;exact hk _ (by decide)⟩
  | 4=>.inr ⟨rfl,fun t ht=>by cases ht;exact hk _ (by decide)⟩
  | 5=>.inr ⟨rfl,fun t ht=>by cases ht;exact hk _ (by decide)⟩
  | 6=>.inr ⟨rfl,fun t ht=>by cases ht;exact hk _ (by decide)⟩
  | 7=>.inr ⟨rfl,fun t ht=>by cases ht;exact hk _ (by decide)⟩
  | 8=>.inr ⟨rfl,fun t ht=>by cases ht;exact hk _ (by decide)⟩
  | 9=>.inl ⟨rfl,rfl⟩
  | 10=>.inl ⟨rfl,rfl⟩
  | 11=>.inr ⟨rfl,fun t ht=>by cases ht;exact hk _ (by decide)⟩
  | 12=>.inr ⟨rfl,fun t ht=>by cases ht;exact hk _ (by decide)⟩
  | 13=>.inr ⟨rfl,fun t ht=>by cases ht;exact hk _ (by decide)⟩
  | 14=>.inr ⟨rfl,fun t ht=>by cases ht;exact hk _ (by decide)⟩
  | 15=>.inr ⟨rfl,fun t ht=>by cases ht;exact hk _ (by decide)⟩
  | 16=>.inr ⟨rfl,fun t ht=>by cases ht;exact hk _ (by decide)⟩
  | 17=>.inl ⟨rfl,rfl⟩
  | 18=>.inl ⟨rfl,rfl⟩
  | 19=>.inl ⟨rfl,rfl⟩
  | 20=>.inl ⟨rfl,rfl⟩
  | 21=>.inl ⟨rfl,rfl⟩
  | 22=>.inr ⟨rfl,fun _ ht=>by cases ht⟩
  | 23=>.inr ⟨rfl,fun _ ht=>by cases ht⟩
  | 24=>.inr ⟨rfl,fun _ ht=>by cases ht⟩
  | 25=>.inr ⟨rfl,fun _ ht=>by cases ht⟩
  | _+26=>.inl ⟨rfl,rfl⟩
theorem GQ(c:Cat){co:Code}(hco:co=(Try.f20.body).getD .skip){cx:Ctx}{S:Nat->Prop}{i j:Int}{p q:List Int}{arr:List (List Int)}{ts:Array Value}{M:Nat->Prop}{W:World}{l Dn fn m:Nat}{u v:Int}(hts:ts.size=75)(harr:arr.length<=40)(hu:IntKind.i64.has u)(hv:IntKind.i64.has v)
  (hl:W.heap[l]?=some (.loop (recC co fn ts Dn .ready none))) (hlS:S l) (hC:Cu cx S bV (bj c (xC c i j p q .dead .dead .dead .dead .dead) arr .aF (.bool false)) ts M W) :
  YieldAt Fence.wide m Try.prog l #[.int .i64 u,.int .i64 v] W fun e W' =>
   (e=.returned (.bool true)/\arr.length<40/\∃M',Cu cx S bV (bj c (xC c i j p q .dead .dead .dead .dead .dead) (arr++[[i,j,u,v]]) .aF (.bool false)) ts M' W'/\dD (fun b=>S b/\b≠l) M W M' W'/\W'.heap[l]?=some (.loop (recC co fn ts Dn .ready none))) \/
   (e=.returned (.bool false)/\arr.length=40/\∃M',Cu cx S bV (bj c (xC c i j p q .dead .dead .dead .dead .dead) arr .aF (.bool false)) ts M' W'/\dD (fun b=>S b/\b≠l) M W M' W'/\W'.heap[l]?=some (.loop (recC co fn ts Dn .done (some .ret)))):=by
 refine⟨fn,_,_,_,run_yield hl rfl,roundIn_of_wpIn trivial ?_⟩;show(eT co (kF++[0])).wpIn _ _ _ _ { tmps:=_,defers:=[] } _;generalize hts2:Array.foldl _ _ _=ts2;obtain rfl:ts2=(ts.setIfInBounds 50 (.int .i64 u)).setIfInBounds 51 (.int .i64 v):=by rw[<-hts2];simp[recC]
 have C0:Cu cx S bV (bj c (xC c i j p q .dead .dead (.int .i64 u) .dead .dead) arr .aF (.bool false)) (ts.setIfInBounds 50 (.int .i64 u)) M W:=hC.lit 17 hu rfl rfl (by rw[rB rfl];decide) (by rw[rB rfl];decide) (by omega) (by decide);have C1:Cu cx S bV (bj c (xC c i j p q .dead .dead (.int .i64 u) (.int .i64 v) .dead) arr .aF (.bool false)) ((ts.setIfInBounds 50 (.int .i64 u)).setIfInBounds 51 (.int .i64 v)) M W:=C0.lit 18 hv rfl rfl (by rw[rB rfl];decide) (by rw[rB rfl];decide) (by simp;omega) (by decide);rw[show eT co (kF++[0])=eT ((Try.f20.body).getD .skip) (kF++[0]) by rw[hco]];refine wpIn_seq ?_;refine nK (nt:=75) (pI l) [] (oL [.bY 9 (.v 17)]) [] (K:=fun e=>e=bj c (xC c i j p q (.int .i64 u) .dead (.int .i64 u) (.int .i64 v) .dead) arr .aF (.bool false)) C1 (by simpa using hts) (by decide +kernel) (by decide +kernel) (by decide +kernel) ?_ ?_
 ·simp only[bj,xC,cV]
  simp only[go_sem]
 rintro a1 w1 _ M1 rfl f1 d1 C2 g1;refine nK (nt:=75) (pI l) [] (oL [.bY 10 (.v 18)]) [] (K:=fun e=>e=bj c (xC c i j p q (.int .i64 u) (.int .i64 v) (.int .i64 u) (.int .i64 v) .dead) arr .aF (.bool false)) C2 (f1.1.trans (by simpa using hts)) (by decide +kernel) (by decide +kernel) (by decide +kernel) ?_ ?_
 ·simp only[bj,xC,cV]
  simp only[go_sem]
 rintro a2 w2 _ M2 rfl f2 d2 C3 g2
 have k0:∀t∈jb,((ts.setIfInBounds 50 (.int .i64 u)).setIfInBounds 51 (.int .i64 v)).getD t undef=ts.getD t undef:=fun t ht=>by
  have h50:t≠50:=fun e=>by subst e;revert ht;decide
  have h51:t≠51:=fun e=>by subst e;revert ht;decide
  rw[getD_set_ne _ (fun e=>h51 e.symm),getD_set_ne _ (fun e=>h50 e.symm)]
 have k2:∀t∈jb,a2.tmps.getD t undef=ts.getD t undef:=fun t ht=>(ik (ts:=jb) (by decide +kernel) f2 ht).trans ((ik (ts:=jb) (by decide +kernel) f1 ht).trans (k0 t ht))
 have s2:a2.tmps.size=75:=f2.1.trans (f1.1.trans (by simpa using hts));have l2:w2.heap[l]?=some (.loop (recC co fn ts Dn .ready none)):=(g2.stay l hlS).trans ((g1.stay l hlS).trans hl);have g02:=g1.trans g2;refine⟨_,run_beginRound l2 rfl,?_⟩;generalize hw3:w2.putObj l (.loop { recC co fn ts Dn .ready none with state:=.busy })=w3;have l3:w3.heap[l]?=some (.loop (recC co fn ts Dn .busy none)):=by rw[<-hw3];exact World.putObj_heap_same (Array.getElem?_eq_some_iff.1 l2).1
 have z3:w3.heap.size=w2.heap.size:=by rw[<-hw3];simp
 have e3:∀b,b≠l->w3.heap[b]?=w2.heap[b]?:=fun b hb=>by rw[<-hw3];exact World.putObj_heap_other hb
 have C4:=C3.rj z3 (fun b hb=>e3 b fun e=>hb (e▸hlS)) (by rw[<-hw3];rfl) (by rw[<-hw3];rfl) (by rw[<-hw3];exact .of rfl rfl);show(eT co (kF++[1])).wpIn _ _ _ _ _ _;rw[show eT co (kF++[1])=eT ((Try.f20.body).getD .skip) (kF++[1]) by rw[hco]];refine wpIn_block (wpIn_seq (wpIn_seq ?_));refine nK (nt:=75) (pI l) [21] (oL [.ld (.v 4),.dc (.t 0),.fA 3 (.t 1),.ld (.t 2),.len (.t 3),.bin .eql (.t 4) (.i 40)]) [(21,5)] (K:=fun e=>e=bj c (xC c i j p q (.int .i64 u) (.int .i64 v) (.int .i64 u) (.int .i64 v) (.bool ((arr.length:Int) == 40))) arr .aF (.bool false)) C4 s2 (by decide +kernel) (by decide +kernel) (by decide +kernel) ?_ ?_
 ·simp only[bj,xC,cV]
  simp only[go_sem]
 rintro a3 w4 _ M3 rfl f3 d3 C5 g3;have s3:a3.tmps.size=75:=f3.1.trans s2;have k3:∀t∈jb,a3.tmps.getD t undef=ts.getD t undef:=fun t ht=>(ik (ts:=jb) (by decide +kernel) f3 ht).trans (k2 t ht)
 have G3:dD (fun b=>S b/\b≠l) M W M3 w4:=(g02.put (hC.sm l hlS) z3 e3).trans (g3.sub fun _ h=>h.1);have l4:w4.heap[l]?=some (.loop (recC co fn ts Dn .busy none)):=(g3.stay l hlS).trans l3;have t57:a3.tmps.getD 57 undef=.bool ((arr.length:Int) == 40):=lz (C5.rd (j:=21) rfl (by decide) rfl rfl trivial)
 have fin:∀(a':Act)(w':World)(M':Nat->Prop)(arr':List (List Int))(b:Bool)(jump:Option Code),Cu cx S bV (bj c (xC c i j p q (.int .i64 u) (.int .i64 v) (.int .i64 u) (.int .i64 v) (.bool b)) arr' .aF (.bool false)) a'.tmps M' w'->dD S M3 w4 M' w'->(∀t∈jb,a'.tmps.getD t undef=ts.getD t undef) ->
   ∃w'',(Instr.endRound l jump).run Try.prog w'=.ok (.bool jump.isNone) w''/\∃M',Cu cx S bV (bj c (xC c i j p q .dead .dead .dead .dead .dead) arr' .aF (.bool false)) ts M' w''/\dD (fun b=>S b/\b≠l) M W M' w''/\w''.heap[l]?=some (.loop (recC co fn ts Dn (if jump.isNone then .ready else .done) jump)):=by
  intro a' w' M' arr' b jump C6 g6 k6;have l6:w'.heap[l]?=some (.loop (recC co fn ts Dn .busy none)):=(g6.stay l hlS).trans l4;refine⟨_,run_endRound jump l6,M',(Hb C6 fun t ht=>(k6 t ht).symm).rj (by simp) (fun b hb=>World.putObj_heap_other fun e=>hb (e▸hlS)) rfl rfl (.of rfl rfl),?_,World.putObj_heap_same (Array.getElem?_eq_some_iff.1 l6).1⟩;have G6:=G3.trans (g6.sub (S':=fun b=>S b/\b≠l) fun _ h=>h.1);exact(G6.put (l:=l) (hC.sm l hlS) (by simp) fun b hb=>World.putObj_heap_other hb).sub fun b hb=>⟨hb,hb.2⟩
 simp only[Exit.then];by_cases h40:arr.length=40
 ·have e40:((arr.length:Int) == 40)=true:=by rw[h40];rfl
  rw[e40] at t57;refine wpIn_cond_true t57 (wpIn_seq ?_);refine nK (nt:=75) (pI l) [] (oL [.st (.v 2) (.k .aF),.st (.v 3) (.k (.bool false))]) [] (K:=fun e=>e=bj c (xC c i j p q (.int .i64 u) (.int .i64 v) (.int .i64 u) (.int .i64 v) (.bool ((arr.length:Int) == 40))) arr .aF (.bool false)) C5 s3 (by decide +kernel) (by decide +kernel) (by decide +kernel) ?_ ?_
  ·simp only[bj,xC,cV]
   simp only[go_sem]
  rintro a4 w5 _ M4 rfl f4 d4 C6 g4;refine wpIn_ret ?_;obtain⟨w7,h1,M7,h2,h3,h4⟩:=fin a4 w5 M4 _ _ (some .ret) C6 g4 fun t ht=>(ik (ts:=jb) (by decide +kernel) f4 ht).trans (k3 t ht)
  exact⟨_,_,h1,.inr ⟨rfl,h40,M7,h2,h3,h4⟩⟩
 ·have e40:((arr.length:Int) == 40)=false:=by
   rw[beq_eq_false_iff_ne];omega
  rw[e40] at t57 C5;refine wpIn_cond_false t57 (wpIn_skip ?_);simp only[Exit.then]
  refine G5 (nt:=75) (pI l) [] (t:=.two 0 11 [1,2,3,4,5,6,7,8,9,10,11,0,12,13,14] (.leaf (oL [.ld (.v 4),.ld (.v 4),.dc (.t 1),.fA 3 (.t 2),.ld (.t 3),.ld (.v 5),.ld (.v 7),.m 9,.m 10,.dP (.int .i64 0) 4 [(0,(.t 5)),(1,(.t 6)),(2,(.t 7)),(3,(.t 8))],.dP (ints []) 1 [(0,(.t 9))],.app 1 24 (.t 4) (.t 10),.dc (.t 0),.fA 3 (.t 12),.st (.t 13) (.t 11)]) [])
   (.leaf (oL [.ld (.v 4),.dc (.t 0),.fA 3 (.t 1),.ld (.t 2),.ld (.v 5),.ld (.v 7),.m 9,.m 10,.dP (.int .i64 0) 4 [(0,(.t 4)),(1,(.t 5)),(2,(.t 6)),(3,(.t 7))],.dP (ints []) 1 [(0,(.t 8))],.app 1 24 (.t 3) (.t 9),.ld (.v 4),.dc (.t 11),.fA 3 (.t 12),.st (.t 13) (.t 10)]) []))
   (K:=fun e=>e=bj c (xC c i j p q (.int .i64 u) (.int .i64 v) (.int .i64 u) (.int .i64 v) (.bool false)) (arr++[[i,j,u,v]]) .aF (.bool false)) C5 s3 (by decide +kernel) (by decide +kernel) (by decide +kernel) (by decide +kernel) ?_ ?_
  ·simp only[bj,xC,cV]
   simp only[go_sem];rw[zr];simp only[go_sem];omega
  rintro a4 w5 _ M4 rfl f4 d4 C6 g4;obtain⟨w7,h1,M7,h2,h3,h4⟩:=fin a4 w5 M4 _ _ none C6 g4 fun t ht=>(ik (ts:=jb) (by decide +kernel) f4 ht).trans (k3 t ht)
  exact⟨_,_,h1,.inl ⟨rfl,by omega,M7,h2,h3,h4⟩⟩
end Go.D3
namespace Go.D3
open Go Proofs
set_option maxRecDepth 100000
set_option maxHeartbeats 4000000
theorem LD(kk:Nat)(p q:Option Addr)(np cp nq cq:Nat)(n:Nat)(w:World):CallsIn Fence.wide n Try.prog 38 #[.pointer (some ⟨kk,0,none⟩),.slice p np cp,.slice q nq cq] w fun e w' =>
  e=.returned (.func (.func 59) #[] #[.pointer (some ⟨w.heap.size,0,none⟩),.pointer (some ⟨w.heap.size+1,0,none⟩),.pointer (some ⟨w.heap.size+2,0,none⟩)])/\w'=((w.alloc (.cells #[.pointer (some ⟨kk,0,none⟩)] 46)).alloc (.cells #[.slice p np cp] 22)).alloc (.cells #[.slice q nq cq] 22):=by
 refine callsIn_of_wp_marks Try.func38 rfl trivial ?_ rfl;simp only[Try.ntmps38,List.size_toArray,List.length_cons,List.length_nil,Nat.reduceAdd,Nat.reduceSub,Array.replicate_succ,Array.replicate_zero,List.push_toArray,List.append_toArray,List.nil_append,List.cons_append]
 gi_wp2
 simp[bodyPostM,LeavesInM,LeavesIn,results,Try.f38,go_sem]
 trace_state
structure qQ(ops:Array Oper)(i:Nat)(op:Op)(d:Nat):Prop where
 ex:∃o,ops[i]?=some o/\o.op=op/\o.dst=some d/\o.guard=none
theorem sP{a:Act}{d:Nat}{v:Value}(h:d<a.tmps.size):∃a',a.put (some d) v=a'/\a'.tmps.size=a.tmps.size/\(∀t,t≠d->a'.tmps.getD t undef=a.tmps.getD t undef)/\a'.tmps.getD d undef=v/\a'.defers=a.defers :=
 ⟨_,rfl,jj _ _ _,fun _ ht=>qo fun e=>ht e.symm,ly h,rfl⟩
theorem GN{n:Nat}{ops:Array Oper}(p0:qQ ops 0 (.load 46 (.tmp 6)) 46)(p1:qQ ops 1 (.move (.tmp 8)) 47)(p2:qQ ops 2 (.move (.tmp 10)) 48)(p3:qQ ops 3 (.call { callee:=.value (.func 38),args:=#[.tmp 46,.tmp 47,.tmp 48],argTypes:=#[46,22,22] }) 49)
  {a:Act} {W:World} {Q:Exit->Act->World->Prop} {kk kx:Nat} {p q:Option Addr} {np cp nq cq:Nat} (hs:a.tmps.size=75) (h6:a.tmps.getD 6 undef=.pointer (some ⟨kx,0,none⟩)) (hx:W.cell? ⟨kx,0,none⟩=some (.pointer (some ⟨kk,0,none⟩)))
  (h8:a.tmps.getD 8 undef=.slice p np cp) (h10:a.tmps.getD 10 undef=.slice q nq cq)
  (hQ:∀a' w',a'.tmps.size=75->a'.defers=a.defers->(∀t,t<46\/49<t->a'.tmps.getD t undef=a.tmps.getD t undef)->a'.tmps.getD 49 undef=.func (.func 59) #[] #[.pointer (some ⟨W.heap.size,0,none⟩),.pointer (some ⟨W.heap.size+1,0,none⟩),.pointer (some ⟨W.heap.size+2,0,none⟩)] ->
    w'=((W.alloc (.cells #[.pointer (some ⟨kk,0,none⟩)] 46)).alloc (.cells #[.slice p np cp] 22)).alloc (.cells #[.slice q nq cq] 22)->Q .normal a' w') :
  wpOpsIn Fence.wide n Try.prog ops Q [0,1,2,3] a W:=by
 obtain⟨o0,i0,q0,t0,u0⟩:=p0.ex;obtain⟨o1,i1,q1,t1,u1⟩:=p1.ex;obtain⟨o2,i2,q2,t2,u2⟩:=p2.ex;obtain⟨o3,i3,q3,t3,u3⟩:=p3.ex;refine oh i0 u0 (nj dp (v:=.pointer (some ⟨kk,0,none⟩)) (by unfold dz;rw[q0]) ?_ ?_)
 ·have x:a.eval (.tmp 6)=.pointer (some ⟨kx,0,none⟩):=h6
  generalize a.eval=ρ at x|-
  simp[execOp,q0,x,go_sem,hx]
 rw[t0];obtain⟨a1,ha1,z1,g1,e1,d1⟩:=sP (a:=a) (d:=46) (v:=.pointer (some ⟨kk,0,none⟩)) (by omega);rw[ha1];refine oh i1 u1 (nj dp (v:=.slice p np cp) (by unfold dz;rw[q1]) ?_ ?_)
 ·have x:a1.eval (.tmp 8)=.slice p np cp:=(g1 8 (by decide)).trans h8
  generalize a1.eval=ρ at x|-
  simp[execOp,q1,x,go_sem]
 rw[t1];obtain⟨a2,ha2,z2,g2,e2,d2⟩:=sP (a:=a1) (d:=47) (v:=.slice p np cp) (by omega);rw[ha2];refine oh i2 u2 (nj dp (v:=.slice q nq cq) (by unfold dz;rw[q2]) ?_ ?_)
 ·have x:a2.eval (.tmp 10)=.slice q nq cq:=(g2 10 (by decide)).trans ((g1 10 (by decide)).trans h10)
  generalize a2.eval=ρ at x|-
  simp[execOp,q2,x,go_sem]
 rw[t2];obtain⟨a3,ha3,z3,g3,e3,d3⟩:=sP (a:=a2) (d:=48) (v:=.slice q nq cq) (by omega);rw[ha3];refine oh i3 u3 ⟨fun f _=>trivial,?_⟩;rw[Oper.semAt_eq _ _ _ (by intro c h;rw[q3] at h;cases h)];have x1:a3.eval (.tmp 46)=.pointer (some ⟨kk,0,none⟩):=(g3 46 (by decide)).trans ((g2 46 (by decide)).trans e1);have x2:a3.eval (.tmp 47)=.slice p np cp:=(g3 47 (by decide)).trans e2;have x3:a3.eval (.tmp 48)=.slice q nq cq:=e3;have x4:a3.eval (.func 38)=.func (.func 38) #[] #[]:=rfl
 have hrun:(execOp a3.eval o3).run Try.prog W=.ok (.enter 38 #[.pointer (some ⟨kk,0,none⟩),.slice p np cp,.slice q nq cq]) W:=by
  generalize a3.eval=ρ at x1 x2 x3 x4|-
  simp[execOp,q3,resolve,x1,x2,x3,x4,Deferred.ofValue,invoke,callFunc];rw[if_neg (by simp[Try.f38]),if_neg (by simp[Try.f38])]
 rw[hrun];refine⟨fun h=>(by cases h),(LD kk p q np cp nq cq (n-1) W).mono ?_⟩;rintro e w' ⟨rfl,rfl⟩;show wpOpsIn _ _ _ _ _ [] (a3.put o3.dst _) _;rw[t3];simp only[wpOpsIn];obtain⟨a4,ha4,z4,g4,e4,d4⟩:=sP (a:=a3) (d:=49) (v:=.func (.func 59) #[] #[.pointer (some ⟨W.heap.size,0,none⟩),.pointer (some ⟨W.heap.size+1,0,none⟩),.pointer (some ⟨W.heap.size+2,0,none⟩)]) (by omega);rw[ha4];refine hQ _ _ (by omega) (d4.trans (d3.trans (d2.trans d1))) (fun t ht=>?_) e4 rfl;rw[g4 t (by omega),g3 t (by omega),g2 t (by omega),g1 t (by omega)]
theorem wH{α:Type}{f:α->D}{d:α}{w:World}{A:Nat->Prop}{v:Value}{l:List α}(h:Rd w A v (ak f d l)):∃p cap,v=.slice p l.length cap:=by
 unfold ak at h;generalize hl:l.map f=L at h;have:L.length=l.length:=by rw[<-hl,List.length_map]
 rw[<-this];cases h with
 | nil=>exact⟨_,_,rfl⟩
 | empty=>exact⟨_,_,rfl⟩
 | slice=>exact⟨_,_,rfl⟩
abbrev pB(b:Nat):Value:=.pointer (some ⟨b,0,none⟩)
theorem Aj{c:Cat}{cx:Ctx}{S M:Nat->Prop}{W:World}{X:List D}{arr:List (List Int)}{r1 r2:D}{ts:Array Value}{kk kx:Nat}(h22:cx.gv 22=pB kk)(h23:cx.gv 23=pB kx)(hC:Cu cx S bV (bj c X arr r1 r2) ts M W)(hX:X.length=17) :
  ts.getD 6 undef=pB kx/\W.cell? ⟨kx,0,none⟩=some (pB kk)/\kk<W.heap.size/\M kk/\∃f1 f2,W.cell? ⟨kk,0,none⟩=some f1/\W.cell? ⟨kk,1,none⟩=some f2/\Rd W (fun b=>b<W.heap.size/\¬M b) f1 (.ptr (aL c).cells)/\Rd W (fun b=>b<W.heap.size/\¬M b) f2 (.ptr (aL c).cells):=by
 have e22:nth (bj c X arr r1 r2) 22=.box [.ptr (aL c).cells,.ptr (aL c).cells,aB (ah c),.o (aB arr)]:=by
  match X,hX with
  | [_,_,_,_,_,_,_,_,_,_,_,_,_,_,_,_,_],_=>rfl
 have e23:nth (bj c X arr r1 r2) 23=.box [.aq 22 [(0,0)]]:=by
  match X,hX with
  | [_,_,_,_,_,_,_,_,_,_,_,_,_,_,_,_,_],_=>rfl
 have e4:nth (bj c X arr r1 r2) 4=.aq 23 [(0,0)]:=rfl;obtain⟨a1,a2,a3⟩:=hC.box (k:=22) ⟨by decide,by decide⟩ e22 h22;obtain⟨b1,b2,b3⟩:=hC.box (k:=23) ⟨by decide,by decide⟩ e23 h23;obtain⟨v,hv,_,hv2⟩:=b3 0 (by decide);obtain⟨f1,hf1,hr1,_⟩:=a3 0 (by simp);obtain⟨f2,hf2,hr2,_⟩:=a3 1 (by simp);refine⟨hC.aq (j:=4) rfl (by decide) e4 ⟨by decide,by decide⟩ ⟨_,e23⟩ h23,?_,a1,a2,f1,f2,hf1,hf2,hr1 rfl trivial rfl,hr2 rfl trivial rfl⟩;rw[hv,hv2 22 kk h22 (by decide) (by decide) rfl ⟨_,e22⟩]
theorem OK{k t:Nat}(h:bV[k]?=some t):t<46\/49<t:=by
 have:bV.all (fun t=>decide (t<46) || decide (49<t))=true:=by decide
 have:=List.all_eq_true.1 this t (List.mem_of_getElem? h);simpa using this
theorem FV(w:World)(o1 o2 o3:Go.Obj):(((w.alloc o1).alloc o2).alloc o3).heap[w.heap.size]?=some o1/\(((w.alloc o1).alloc o2).alloc o3).heap[w.heap.size+1]?=some o2/\(((w.alloc o1).alloc o2).alloc o3).heap[w.heap.size+2]?=some o3:=by
 have z1:=World.size_alloc w o1;have z2:=World.size_alloc (w.alloc o1) o2;have h1:=World.alloc_heap_new w o1;have h2:=World.alloc_heap_new (w.alloc o1) o2;have h3:=World.alloc_heap_new ((w.alloc o1).alloc o2) o3;rw[z1] at h2;rw[z2,z1] at h3;exact⟨((heap_alloc_old _ o3 (by omega)).trans (heap_alloc_old _ o2 (by omega))).trans h1,(heap_alloc_old _ o3 (by omega)).trans h2,h3⟩
theorem GP(c:Cat)(hb:c.cZ=true){cx:Ctx}{kk kx:Nat}(h22:cx.gv 22=pB kk)(h23:cx.gv 23=pB kx){i j:Nat}(hi:i<(ah c).length)(hj:j<(ah c).length){arr:List (List Int)}(harr:arr.length<=40){ds:List Nat}{M:Nat->Prop}{a:Act}{W:World}{n:Nat}{Q:Exit->Act->World->Prop}(hs:a.tmps.size=75)
  (hC:Cu cx (fun b=>b∈ds) bV (bj c (xC c i j ((ah c).getD i []) ((ah c).getD j []) .dead .dead .dead .dead .dead) arr .aF (.bool false)) a.tmps M W) (hds:∀d∈ds,W.heap[d]?=some (.deferred (some [])))
  (hN:∀a' w' M' d,a'.tmps.size=75->a'.defers={ target:=.collected d,args:=#[] }::a.defers->(arr++gS c (ah c) i j).length<=40->d ∉ ds->Cu cx (fun b=>b∈d::ds) bV (bj c (xC c i j ((ah c).getD i []) ((ah c).getD j []) .dead .dead .dead .dead .dead) (arr++gS c (ah c) i j) .aF (.bool false)) a'.tmps M' w' ->
    (∀x∈d::ds,w'.heap[x]?=some (.deferred (some [])))->Q .normal a' w')
  (hR:∀a' w' M' d arr',a'.tmps.size=75->a'.defers={ target:=.collected d,args:=#[] }::a.defers->40<(arr++gS c (ah c) i j).length->d ∉ ds->Cu cx (fun b=>b∈d::ds) bV (bj c (xC c i j ((ah c).getD i []) ((ah c).getD j []) .dead .dead .dead .dead .dead) arr' .aF (.bool false)) a'.tmps M' w' ->
    (∀x∈d::ds,w'.heap[x]?=some (.deferred (some [])))->Q .ret a' w') :
  (eT ((Try.f20.body).getD .skip) [1,1,1,0,1,0,0,1,1,0,0,1,1,0,0,1,1,0,0,1]).wpIn Fence.wide n Try.prog Q a W:=by
 obtain⟨t6,hx,hkl,hMk,f1,f2,c1,c2,r1,r2⟩:=Aj h22 h23 hC rfl;generalize hp:(ah c).getD i []=p at *;generalize hq:(ah c).getD j []=q at *;have rp:Rd W (fun b=>b<W.heap.size/\¬M b) (a.tmps.getD 8 undef) (ints p):=hC.rd (j:=6) rfl (by decide) rfl rfl trivial;have rq:Rd W (fun b=>b<W.heap.size/\¬M b) (a.tmps.getD 10 undef) (ints q):=hC.rd (j:=8) rfl (by decide) rfl rfl trivial;obtain⟨pp,cp,e8⟩:=wH rp;obtain⟨qq,cq,e10⟩:=wH rq;refine wpIn_seq (wpIn_region (GN (kk:=kk) (kx:=kx) ⟨_,rfl,rfl,rfl,rfl⟩ ⟨_,rfl,rfl,rfl,rfl⟩ ⟨_,rfl,rfl,rfl,rfl⟩ ⟨_,rfl,rfl,rfl,rfl⟩ hs t6 hx e8 e10 ?_));rintro a1 W1 s1 d1 k1 e49 hW1;have z1:W1.heap.size=W.heap.size+3:=by rw[hW1];simp
 have x1:Ext W W1:=by rw[hW1];exact((Ext.alloc _ _).trans (Ext.alloc _ _)).trans (Ext.alloc _ _)
 obtain⟨h0,h1,h2⟩:=FV W (.cells #[.pointer (some ⟨kk,0,none⟩)] 46) (.cells #[.slice pp p.length cp] 22) (.cells #[.slice qq q.length cq] 22);rw[<-hW1] at h0 h1 h2;have b0:W1.cell? ⟨W.heap.size,0,none⟩=some (pB kk):=cN h0 (by simp);have b1:W1.cell? ⟨W.heap.size+1,0,none⟩=some (.slice pp p.length cp):=cN h1 (by simp);have b2:W1.cell? ⟨W.heap.size+2,0,none⟩=some (.slice qq q.length cq):=cN h2 (by simp);have hC1:Cu cx (fun b=>b∈ds) bV (bj c (xC c i j p q .dead .dead .dead .dead .dead) arr .aF (.bool false)) a1.tmps M W1:=(hC.Fj (ts':=a1.tmps) fun k=>.inr ⟨rfl,fun t ht=>k1 t (OK ht)⟩).ext x1;simp only[Exit.then];refine wpIn_block (wpIn_rangeFunc fun fn _=>?_);generalize hW2:(W1.alloc (.deferred (some []))).alloc (.loop (recC ((Try.f20.body).getD .skip) fn a1.tmps W1.heap.size .ready none))=W2
 refine⟨W1.heap.size+1,[{ target:=.collected W1.heap.size,args:=#[] }],W2,{ target:=.fn (.func 59) #[pB W.heap.size,pB (W.heap.size+1),pB (W.heap.size+2)],args:=#[.func (.yield (W1.heap.size+1)) #[] #[]] },W2,59,
  #[.func (.yield (W1.heap.size+1)) #[] #[],pB W.heap.size,pB (W.heap.size+1),pB (W.heap.size+2)],W2,?_,?_,fun _ _=>trivial,?_,fun h=>(by cases h),?_⟩
 ·rw[<-hW2];exact run_enterLoop_outer _ _ _ _ _
 ·have:a1.eval (.tmp 49)=_:=e49
  simp only[resolve,this];simp[go_sem]
 ·simp[invoke,go_sem]
 have z2:W2.heap.size=W1.heap.size+2:=by rw[<-hW2];simp
 have x2:Ext W1 W2:=by rw[<-hW2];exact(Ext.alloc _ _).trans (Ext.alloc _ _)
 have x12:=x1.trans x2
 have hD2:W2.heap[W1.heap.size]?=some (.deferred (some [])):=by
  rw[<-hW2];exact(heap_alloc_old _ _ (by simp)).trans (World.alloc_heap_new W1 _)
 have hL2:W2.heap[W1.heap.size+1]?=some (.loop (recC ((Try.f20.body).getD .skip) fn a1.tmps W1.heap.size .ready none)):=by
  rw[<-hW2];have:=World.alloc_heap_new (W1.alloc (.deferred (some []))) (.loop (recC ((Try.f20.body).getD .skip) fn a1.tmps W1.heap.size .ready none));rwa [World.size_alloc] at this
 have hlts:∀d∈ds,d<W.heap.size:=fun d hd=>(Array.getElem?_eq_some_iff.1 (hds d hd)).1
 have C2:=hC1.FR (S':=fun b=>b∈(W1.heap.size+1)::W1.heap.size::ds) x2 (fun b hb=>by
  rcases List.mem_cons.1 hb with rfl | hb
  ·exact .inr ⟨by omega,by omega⟩
  ·rcases List.mem_cons.1 hb with rfl | hb
   ·exact .inr ⟨by omega,by omega⟩
   ·exact .inl hb)
 have hp0:=gR hi;have hq0:=gR hj;rw[hp] at hp0;rw[hq] at hq0;obtain⟨pa,pb,pg,hpo⟩:=hp0;obtain⟨qa,qb,qg,hqo⟩:=hq0;have hrows:gS c (ah c) i j=(fm c p q).map fun x=>[(i:Int),(j:Int),x.1,x.2]:=by rw[<-hp,<-hq];rfl
 rw[hrows] at hN hR;have hM:=hC.lt;have hBs:∀b,((b<W.heap.size/\¬M b)\/(W.heap.size<=b/\b<W1.heap.size))->b<W1.heap.size:=fun b hb=>by omega
 have up:∀{v:Value}{d:D},Rd W (fun b=>b<W.heap.size/\¬M b) v d->Rd W2 (fun b=>(b<W.heap.size/\¬M b)\/(W.heap.size<=b/\b<W1.heap.size)) v d:=fun h=>h.mono (fun _ h=>.inl h) fun b hb=>x12.same b hb.1
 have cB:∀{b:Nat},b<W1.heap.size->W2.cell? ⟨b,0,none⟩=W1.cell? ⟨b,0,none⟩:=fun hb=>cell_of_heap (x2.same _ hb)
 have hhas:∀{x:Int×Int},x∈fm c p q->IntKind.i64.has x.1/\IntKind.i64.has x.2:=fun {x} hx=>by
  obtain⟨m1,m2,_⟩:=wD (u:=x.1) (v:=x.2).1 hx;have hfr:=(fS hb).1.fr;have g1:=Cat.cU.1 m1;have g2:=Cat.cU.1 m2;refine⟨?_,?_⟩
  ·have:=kQ (n:=x.1.toNat) (by omega)
   rwa [Int.toNat_of_nonneg g1.1] at this
  ·have:=kQ (n:=x.2.toNat) (by omega)
   rwa [Int.toNat_of_nonneg g2.1] at this
 refine(LF c hb p q hpo hqo kk (n-1) (W1.heap.size+1) (pB W.heap.size) (pB (W.heap.size+1)) (pB (W.heap.size+2)) (fun b=>(b<W.heap.size/\¬M b)\/(W.heap.size<=b/\b<W1.heap.size)) (fun b=>M b\/(W1.heap.size<=b/\b<W2.heap.size)) W2
  (fun pre M' W'=>Cu cx (fun b=>b∈(W1.heap.size+1)::W1.heap.size::ds) bV (bj c (xC c i j p q .dead .dead .dead .dead .dead) (arr++pre.map fun x=>[(i:Int),(j:Int),x.1,x.2]) .aF (.bool false)) a1.tmps M' W'/\arr.length+pre.length<=40 /\
    W'.heap[W1.heap.size+1]?=some (.loop (recC ((Try.f20.body).getD .skip) fn a1.tmps W1.heap.size .ready none))/\∀d∈W1.heap.size::ds,W'.heap[d]?=some (.deferred (some [])))
  (fun W'=>∃M' arr',40<(arr++(fm c p q).map fun x=>[(i:Int),(j:Int),x.1,x.2]).length/\Cu cx (fun b=>b∈(W1.heap.size+1)::W1.heap.size::ds) bV (bj c (xC c i j p q .dead .dead .dead .dead .dead) arr' .aF (.bool false)) a1.tmps M' W' /\
    W'.heap[W1.heap.size+1]?=some (.loop (recC ((Try.f20.body).getD .skip) fn a1.tmps W1.heap.size .done (some .ret)))/\∀d∈W1.heap.size::ds,W'.heap[d]?=some (.deferred (some [])))
  ⟨W.heap.size,rfl,.inr ⟨by omega,by omega⟩,(cB (by omega)).trans b0⟩ ⟨f1,f2,(cell_of_heap (x12.same kk hkl)).trans c1,(cell_of_heap (x12.same kk hkl)).trans c2,up r1,up r2⟩
  (hC.Ho.mono (fun _ h=>.inl h) fun b hb=>x12.same b hb.1) (fun b hb=>⟨by have:=hBs b hb;omega,fun e=>hb.elim (fun hb=>hb.2 (e▸hMk)) fun hb=>by omega⟩) (by omega)
  (.ptr (.inr ⟨by omega,by omega⟩) (fun _=>.slice pp p.length cp) (fun j' x hj'=>?_) fun j' x hj'=>?_) (.ptr (.inr ⟨by omega,by omega⟩) (fun _=>.slice qq q.length cq) (fun j' x hj'=>?_) fun j' x hj'=>?_)
  (fun b hb hm=>?_) (fun {pre M' W' W''} h hx=>⟨h.1.ext hx,h.2.1,(hx.same _ (Array.getElem?_eq_some_iff.1 h.2.2.1).1).trans h.2.2.1,fun d hd=>(hx.same _ (Array.getElem?_eq_some_iff.1 (h.2.2.2 d hd)).1).trans (h.2.2.2 d hd)⟩) (fun h=>h.1.lt) (fun {pre M' W'} h=>?_) ?_ ⟨by simpa using C2,by simpa using harr,hL2,fun d hd=>?_⟩).mono ?_
 ·match j' with
  | 0=>exact(cB (by omega)).trans b1
  | _+1=>cases hj'
 ·match j' with
  | 0=>cases hj';rw[<-e8];exact up rp
  | _+1=>cases hj'
 ·match j' with
  | 0=>exact(cB (by omega)).trans b2
  | _+1=>cases hj'
 ·match j' with
  | 0=>cases hj';rw[<-e10];exact up rq
  | _+1=>cases hj'
 ·rcases hm with hm | hm
  ·have:=hM b hm
   rcases hb with hb | hb
   ·exact hb.2 hm
   ·omega
  ·have:=hBs b hb
   omega
 ·obtain⟨_,_,k1,k2,f1,f2,k3,k4,k5,k6⟩:=Aj h22 h23 h.1 rfl
  exact⟨_,fun b hb=>⟨hb.1,fun e=>hb.2 (e▸k2),hb.2⟩,f1,f2,k3,k4,k5,k6⟩
 ·rintro pre M' W' x m ⟨hCu,hlen,hl,hd⟩ hpre
  obtain⟨hu,hv⟩:=hhas (hpre.subset (by simp:x∈pre++[x]));obtain⟨fn',ts,bY,body,y1,y2⟩:=GQ c rfl (m:=m) s1 (by simpa using hlen) hu hv hl List.mem_cons_self hCu;have hpl:=hpre.length_le;rw[List.length_append,List.length_singleton] at hpl
  have aI:∀{M'' W''},dD (fun b=>b∈(W1.heap.size+1)::W1.heap.size::ds/\b≠W1.heap.size+1) M' W' M'' W''->∀d∈W1.heap.size::ds,W''.heap[d]?=some (.deferred (some [])):=fun k2 d hd'=>by
   refine(k2.stay d ⟨List.mem_cons_of_mem _ hd',?_⟩).trans (hd d hd');rcases List.mem_cons.1 hd' with rfl | hd'
   ·omega
   ·have:=hlts d hd';omega
  refine⟨fn',ts,bY,body,y1,y2.mono ?_⟩;rintro e W'' (⟨rfl,hlt,M'',k1,k2,k3⟩ | ⟨rfl,hlt,M'',k1,k2,k3⟩)
  ·refine .inl ⟨rfl,M'',⟨?_,?_,k3,aI k2⟩,k2.size,fun b h1 h2 _=>k2.same b h1 h2,k2.new⟩
   ·rw[List.map_append,<-List.append_assoc];exact k1
   ·simp only[List.length_append,List.length_map,List.length_singleton] at hlt|-;omega
  ·refine .inr ⟨rfl,M'',_,?_,k1,k3,aI k2⟩
   simp only[List.length_append,List.length_map] at hlt|-;omega
 ·rcases List.mem_cons.1 hd with rfl | hd
  ·exact hD2
  ·exact(x12.same d (hlts d hd)).trans (hds d hd)
 ·have hne:∀d∈W1.heap.size::ds,d≠W1.heap.size+1:=fun d hd=>by
   rcases List.mem_cons.1 hd with rfl | hd
   ·omega
   ·have:=hlts d hd;omega
  have hnd:W1.heap.size ∉ ds:=fun h=>by have:=hlts _ h;omega
  have hda:({ target:=.collected W1.heap.size,args:=#[] }:Deferred)::a1.defers={ target:=.collected W1.heap.size,args:=#[] }::a.defers:=by rw[d1]
  rintro e W3 ⟨⟨v,rfl⟩,(⟨M',hCu,hlen,hl,hd⟩ | ⟨M',arr',hlen,hCu,hl,hd⟩)⟩
  ·refine⟨none,_,run_endLoop hl (by simp[recC]),hN _ _ M' W1.heap.size s1 hda (by simpa using hlen) hnd ((hCu.rj (by simp) (fun b hb=>World.putObj_heap_other fun e=>hb (e▸List.mem_cons_self)) rfl rfl (.of rfl rfl)).less fun b hb=>List.mem_cons_of_mem _ hb) fun d hd'=>(World.putObj_heap_other (hne d hd')).trans (hd d hd')⟩
  ·exact⟨some .ret,_,run_endLoop hl (by simp[recC]),wpIn_ret (hR _ _ M' W1.heap.size arr' s1 hda hlen hnd ((hCu.rj (by simp) (fun b hb=>World.putObj_heap_other fun e=>hb (e▸List.mem_cons_self)) rfl rfl (.of rfl rfl)).less fun b hb=>List.mem_cons_of_mem _ hb) fun d hd'=>(World.putObj_heap_other (hne d hd')).trans (hd d hd'))⟩
end Go.D3
namespace Go.D3
open Go Proofs
set_option maxRecDepth 100000
set_option maxHeartbeats 4000000
def vy(d:Nat):Deferred:={ target:=.collected d,args:=#[] }
structure gh(c:Cat)(cx:Ctx)(X:List D)(arr:List (List Int))(a:Act)(w:World):Prop where
 ex:∃(ds:List Nat)(M:Nat->Prop),a.tmps.size=75/\a.defers=ds.map vy/\ds.Nodup/\(∀d∈ds,w.heap[d]?=some (.deferred (some [])))/\Cu cx (fun b=>b∈ds) bV (bj c X arr .aF (.bool false)) a.tmps M w
section
variable{c:Cat}{cx:Ctx}{X X':List D}{arr arr':List (List Int)}{a:Act}{w:World}{ops:Array Oper}{n:Nat}{Q:Exit->Act->World->Prop}{P:Program}
theorem gh.text(h:gh c cx X arr a w)(pre:List Nat)(l:List aO)(post:List (Nat×Nat)){id:Nat}(X':List D)(hf:ed P 75 bV ops false pre l post=true)(hnd:ops.toList.all dz=true)
  (hv:bA P (fun st=>fin post st=bj c X' arr .aF (.bool false)) l (bF pre ⟨bj c X arr .aF (.bool false),0,[]⟩)) (hQ:∀a' w',fr ops a a'->gh c cx X' arr a' w'->Q .normal a' w'):(Code.region id ops false).wpIn Fence.wide n P Q a w:=by
 obtain⟨ds,M,h1,h2,h3,h4,h5⟩:=h.ex;refine nK (nt:=75) dp pre l post (K:=fun e=>e=bj c X' arr .aF (.bool false)) h5 h1 (by decide +kernel) hf hnd hv ?_;rintro a' w' _ M' rfl f g C k;exact hQ a' w' f ⟨ds,M',f.1.trans h1,g.trans h2,h3,fun d hd=>(k.stay d hd).trans (h4 d hd),C⟩
end
def xO(c:Cat)(i:Int)(t:D):List D:=[.dead,.dead,.dead,.dead,.dead,.dead,aB (ah c),.int .i64 (ah c).length,.int .i64 i,.dead,.dead,.dead,.dead,.dead,t,.dead,.dead]
def xI(c:Cat)(i j:Int)(p:List Int)(t:D):List D:=[.box [.int .i64 i],ints p,.dead,.dead,.dead,.dead,aB (ah c),.int .i64 (ah c).length,.int .i64 i,aB (ah c),.int .i64 (ah c).length,.int .i64 j,.dead,.dead,.dead,t,.dead]
theorem F7{c:Cat}{O:List (List Int)}{s m n:Nat}(h:m<=n):(dF c O s m).length<=(dF c O s n).length:=by
 obtain⟨k,rfl⟩:=Nat.le.dest h;induction k with
 | zero=>exact Nat.le_refl _
 | succ k ih =>
  rw[<-Nat.add_assoc,o9,List.length_append];exact Nat.le_trans (ih (by omega)) (by omega)
theorem F8{c:Cat}{O:List (List Int)}{m n:Nat}(h:m<=n):(ff c O m).length<=(ff c O n).length:=by
 obtain⟨k,rfl⟩:=Nat.le.dest h;induction k with
 | zero=>exact Nat.le_refl _
 | succ k ih =>
  rw[<-Nat.add_assoc,qZ,List.length_append];exact Nat.le_trans (ih (by omega)) (by omega)
theorem GL(c:Cat)(hb:c.cZ=true){cx:Ctx}{kk kx:Nat}(h22:cx.gv 22=pB kk)(h23:cx.gv 23=pB kx)(h8:(ah c).length<=8){i:Nat}(hi:i<(ah c).length){arr:List (List Int)}(harr:arr.length<=40){a:Act}{W:World}{n:Nat}{Q:Exit->Act->World->Prop}{t0:D}
  (hC:gh c cx (xI c i 0 ((ah c).getD i []) t0) arr a W)
  (hN:∀a' w',(arr++dF c (ah c) i (ah c).length).length<=40->gh c cx (xI c i (ah c).length ((ah c).getD i []) (.bool false)) (arr++dF c (ah c) i (ah c).length) a' w'->Q .normal a' w')
  (hR:∀a' w' X arr',40<(arr++dF c (ah c) i (ah c).length).length->X.length=17->gh c cx X arr' a' w'->Q .ret a' w') :
  (eT ((Try.f20.body).getD .skip) [1,1,1,0,1,0,0,1,1,0,0,1,1]).wpIn Fence.wide n Try.prog Q a W:=by
 refine wpIn_block (tG (fun m a w=>∃(j:Nat)(t:D),gh c cx (xI c i j ((ah c).getD i []) t) (arr++dF c (ah c) i j) a w/\(arr++dF c (ah c) i j).length<=40/\j<=(ah c).length/\m=(ah c).length-j) (n0:=(ah c).length) ⟨0,t0,by simpa[dF] using hC,by simpa[dF] using harr,Nat.zero_le _,rfl⟩ ?_);rintro m a w ⟨j,t,hC,hlen,hj,rfl⟩;refine wpIn_seq ?_;refine hC.text [20] (oL [.bin .lss (.v 16) (.v 15)]) [(20,0)] (xI c i j ((ah c).getD i []) (.bool (decide (j<(ah c).length)))) (by decide +kernel) (by decide +kernel) ?_ ?_
 ·simp only[bj,xI,cV]
  simp only[go_sem]
 intro a1 w1 f1 C1
 have t42:a1.tmps.getD 42 undef=.bool (decide (j<(ah c).length)):=by
  obtain⟨ds,M,_,_,_,_,h5⟩:=C1.ex;exact lz (h5.rd (j:=20) rfl (by decide) rfl rfl trivial)
 refine wpIn_seq ?_;by_cases hlt:j<(ah c).length
 ·rw[decide_eq_true hlt] at t42 C1
  refine wpIn_cond_true t42 (wpIn_skip ?_);simp only[Exit.then];refine wpIn_seq (wpIn_block (wpIn_seq ?_));refine C1.text [7,20] (oL [.m 16,.ee 1 (.v 14) (.v 16),.ld (.t 1),.dO [.int .i64 0],.st (.t 3) (.t 0),.a 8 2]) [(7,3)] (xC c i j ((ah c).getD i []) ((ah c).getD j []) .dead .dead .dead .dead .dead) (by decide +kernel) (by decide +kernel) ?_ ?_
  ·simp only[bj,xI,xC,cV]
   simp only[go_sem];exact hlt
  intro a2 w2 f2 C2;obtain⟨ds,M,e1,e2,e3,e4,e5⟩:=C2.ex;refine GP c hb h22 h23 hi hlt hlen e1 e5 e4 ?_ ?_
  ·intro a3 w3 M3 d g1 g2 g3 g4 g5 g6
   have C3:gh c cx (xC c i j ((ah c).getD i []) ((ah c).getD j []) .dead .dead .dead .dead .dead) (arr++dF c (ah c) i (j+1)) a3 w3:=by
    rw[o9,<-List.append_assoc];exact⟨d::ds,M3,g1,by rw[g2,e2];rfl,List.nodup_cons.2 ⟨g4,e3⟩,g6,g5⟩
   rw[List.append_assoc,<-o9] at g3;simp only[Exit.then,Exit.inBlock];refine C3.text [7,8] (oL [.bin .add (.v 16) (.i 1),.a 16 0]) [] (xI c i ((j+1:Nat):Int) ((ah c).getD i []) .dead) (by decide +kernel) (by decide +kernel) ?_ ?_
   ·simp only[bj,xI,xC,cV]
    simp only[go_sem];rw[aU hlt (by simp only[maxLen];omega)]
   intro a4 w4 _ C4;exact⟨_,by omega,j+1,.dead,C4,g3,by omega,rfl⟩
  ·intro a3 w3 M3 d arr' g1 g2 g3 g4 g5 g6
   refine hR _ _ _ arr' ?_ rfl ⟨d::ds,M3,g1,by rw[g2,e2];rfl,List.nodup_cons.2 ⟨g4,e3⟩,g6,g5⟩;rw[List.append_assoc,<-o9,List.length_append] at g3;rw[List.length_append];have:=F7 (c:=c) (O:=ah c) (s:=i) (m:=j+1) (n:=(ah c).length) (by omega);omega
 ·rw[decide_eq_false hlt] at t42 C1
  obtain rfl:j=(ah c).length:=by omega
  refine wpIn_cond_false t42 (wpIn_exit ?_);simp only[Exit.then,Exit.inBlock,if_true];exact hN _ _ hlen C1
theorem GO(c:Cat)(hb:c.cZ=true){cx:Ctx}{kk kx:Nat}(h22:cx.gv 22=pB kk)(h23:cx.gv 23=pB kx)(h8:(ah c).length<=8){a:Act}{W:World}{n:Nat}{Q:Exit->Act->World->Prop}{t0:D}
  (hC:gh c cx (xO c 0 t0) [] a W)
  (hN:∀a' w',(an c).length<=40->gh c cx (xO c (ah c).length (.bool false)) (an c) a' w'->Q .normal a' w')
  (hR:∀a' w' X arr',40<(an c).length->X.length=17->gh c cx X arr' a' w'->Q .ret a' w') :
  (eT ((Try.f20.body).getD .skip) [1,1,1,0,1]).wpIn Fence.wide n Try.prog Q a W:=by
 refine wpIn_block (tG (fun m a w=>∃(i:Nat)(t:D),gh c cx (xO c i t) (ff c (ah c) i) a w/\(ff c (ah c) i).length<=40/\i<=(ah c).length/\m=(ah c).length-i) (n0:=(ah c).length) ⟨0,t0,by simpa[ff] using hC,by simp[ff],Nat.zero_le _,rfl⟩ ?_);rintro m a w ⟨i,t,hC,hlen,hi,rfl⟩;refine wpIn_seq ?_;refine hC.text [19] (oL [.bin .lss (.v 13) (.v 12)]) [(19,0)] (xO c i (.bool (decide (i<(ah c).length)))) (by decide +kernel) (by decide +kernel) ?_ ?_
 ·simp only[bj,xO,cV]
  simp only[go_sem]
 intro a1 w1 f1 C1
 have t32:a1.tmps.getD 32 undef=.bool (decide (i<(ah c).length)):=by
  obtain⟨ds,M,_,_,_,_,h5⟩:=C1.ex;exact lz (h5.rd (j:=19) rfl (by decide) rfl rfl trivial)
 refine wpIn_seq ?_;by_cases hlt:i<(ah c).length
 ·rw[decide_eq_true hlt] at t32 C1
  refine wpIn_cond_true t32 (wpIn_skip ?_);simp only[Exit.then];refine wpIn_seq (wpIn_block (wpIn_seq ?_));refine C1.text [5,19] (oL [.m 13,.ee 1 (.v 11) (.v 13),.ld (.t 1),.dO [.int .i64 0],.st (.t 3) (.t 0),.a 6 2]) [(5,3)] ([.box [.int .i64 i],ints ((ah c).getD i [])]++(xO c i .dead).drop 2) (by decide +kernel) (by decide +kernel) ?_ ?_
  ·simp only[bj,xO,cV]
   simp only[go_sem];exact hlt
  intro a2 w2 f2 C2;simp only[Exit.then];refine wpIn_seq ?_;refine C2.text [14,15] (oL [.ld (.v 4),.dc (.t 0),.fA 2 (.t 1),.ld (.t 2),.len (.t 3),.bY 16 (.i 0)]) [(14,3),(15,4)] (xI c i 0 ((ah c).getD i []) .dead) (by decide +kernel) (by decide +kernel) ?_ ?_
  ·simp only[bj,xO,xI,cV]
   simp only[go_sem]
  intro a3 w3 f3 C3;simp only[Exit.then];refine GL c hb h22 h23 h8 hlt hlen C3 ?_ ?_
  ·intro a4 w4 g3 C4
   rw[<-qZ] at C4 g3;simp only[Exit.then,Exit.inBlock];refine C4.text [5,6,14,15,16,20] (oL [.bin .add (.v 13) (.i 1),.a 13 0]) [] (xO c ((i+1:Nat):Int) .dead) (by decide +kernel) (by decide +kernel) ?_ ?_
   ·simp only[bj,xI,xO,cV]
    simp only[go_sem];rw[aU hlt (by simp only[maxLen];omega)]
   intro a5 w5 _ C5;exact⟨_,by omega,i+1,.dead,C5,g3,by omega,rfl⟩
  ·intro a4 w4 X arr' g3 hX C4
   refine hR _ _ _ arr' ?_ hX C4;rw[<-qZ] at g3;have:=F8 (c:=c) (O:=ah c) (m:=i+1) (n:=(ah c).length) (by omega);unfold an;omega
 ·rw[decide_eq_false hlt] at t32 C1
  obtain rfl:i=(ah c).length:=by omega
  refine wpIn_cond_false t32 (wpIn_exit ?_);simp only[Exit.then,Exit.inBlock,if_true];exact hN _ _ hlen C1
end Go.D3
namespace Go.D3
open Go Proofs
set_option maxRecDepth 100000
set_option maxHeartbeats 4000000
def u6(kk kx r1 r2:Nat)(k:Nat):Value:=if k=22 then pB kk else if k=23 then pB kx else if k=24 then pB r1 else if k=25 then pB r2 else undef
abbrev pz(w:World)(A:Nat->Prop)(kk kx r1 r2:Nat)(hA:∀b,A b->b<w.heap.size/\¬(b=kk\/b=kx\/b=r1\/b=r2))(hg:ck w A):Ctx:=⟨w,fun b=>b=kk\/b=kx\/b=r1\/b=r2,A,u6 kk kx r1 r2,hA,hg,[]⟩
def rH(kk kx r1 r2:Nat)(k b:Nat):Prop:=(k=22/\b=kk)\/(k=23/\b=kx)\/(k=24/\b=r1)\/(k=25/\b=r2)
theorem GZ{c:Cat}{w:World}{A:Nat->Prop}{kk kx r1 r2:Nat}{hA:∀b,A b->b<w.heap.size/\¬(b=kk\/b=kx\/b=r1\/b=r2)}{hg:ck w A}{f1 f2 v:Value}{ts:Array Value}{t1 t2 t3 t4:TypeId}
  (hkk:w.heap[kk]?=some (.cells #[f1,f2,v,.slice none 0 0] t1 (0,0))) (hkx:w.heap[kx]?=some (.cells #[pB kk] t2 (0,0))) (h1:w.heap[r1]?=some (.cells #[.pointer none] t3 (0,0))) (h2:w.heap[r2]?=some (.cells #[.bool false] t4 (0,0)))
  (hd:kk≠kx/\kk≠r1/\kk≠r2/\kx≠r1/\kx≠r2/\r1≠r2) (e1:Rd w A f1 (.ptr (aL c).cells)) (e2:Rd w A f2 (.ptr (aL c).cells)) (e3:Rd w A v (aB (ah c))) (t4:ts.getD 4 undef=pB r1) (t5:ts.getD 5 undef=pB r2) (t6:ts.getD 6 undef=pB kx) :
  ∃M,Cu (pz w A kk kx r1 r2 hA hg) (fun b=>b∈[]) bV (bj c (List.replicate 17 .dead) [] .aF (.bool false)) ts M w:=by
 have lt:∀{b o},w.heap[b]?=some o->b<w.heap.size:=fun h=>(Array.getElem?_eq_some_iff.1 h).1
 have hfp:∀k b,rH kk kx r1 r2 k b->b<w.heap.size/\(b=kk\/b=kx\/b=r1\/b=r2):=by
  rintro k b (⟨_,rfl⟩ | ⟨_,rfl⟩ | ⟨_,rfl⟩ | ⟨_,rfl⟩)
  ·exact⟨lt hkk,.inl rfl⟩
  ·exact⟨lt hkx,.inr (.inl rfl)⟩
  ·exact⟨lt h1,.inr (.inr (.inl rfl))⟩
  ·exact⟨lt h2,.inr (.inr (.inr rfl))⟩
 obtain⟨vl,hv,hgv⟩:∃vl:Nat->Value,(∀j t,bV[j]?=some t->vl j=ts.getD t undef)/\∀k,bV.length<=k->vl k=u6 kk kx r1 r2 k :=
  ⟨fun k=>match bV[k]? with | some t=>ts.getD t undef | none=>u6 kk kx r1 r2 k,fun j t hj=>by simp only[hj],fun k hk=>by
   have:bV[k]?=none:=List.getElem?_eq_none hk
   simp only[this]⟩
 have v2:vl 2=pB r1:=(hv 2 4 rfl).trans t4;have v3:vl 3=pB r2:=(hv 3 5 rfl).trans t5;have v4:vl 4=pB kx:=(hv 4 6 rfl).trans t6;have v22:vl 22=pB kk:=hgv 22 (by decide);have v23:vl 23=pB kx:=hgv 23 (by decide);have v24:vl 24=pB r1:=hgv 24 (by decide);have v25:vl 25=pB r2:=hgv 25 (by decide);refine⟨_,⟨vl,rH kk kx r1 r2,fun _=>False,⟨fun k=>?_,?_,fun _ _ _ h=>h,fun k hk b hb=>?_,fun k b hb=>⟨(hfp k b hb).1,.inl (hfp k b hb).2⟩,fun _ h=>h.elim,Nat.le_refl _,fun _ _ _=>rfl,rfl,rfl,.refl _⟩,fun j t hj=>(hv j t hj).symm,fun k h1 _=>hgv k h1,fun _ hb=>(List.not_mem_nil hb).elim,fun b=>.rfl⟩⟩
 ·have stb:∀b,A b->ae (pz w A kk kx r1 r2 hA hg) (rH kk kx r1 r2) (fun _=>False) w b:=fun b hb=>⟨⟨(hA b hb).1,fun _=>hb⟩,fun h=>h,fun k hk=>(hA b hb).2 (hfp k b hk).2⟩
  have up:∀{v:Value}{d:D},Rd w A v d->Rd w (ae (pz w A kk kx r1 r2 hA hg) (rH kk kx r1 r2) (fun _=>False) w) v d:=fun h=>h.mono stb fun _ _=>rfl
  rw[cP];split
  ·match k with
   | 0 | 1 | 5 | 6 | 7 | 8 | 9 | 10 | 11 | 12 | 13 | 14 | 15 | 16 | 17 | 18 | 19 | 20 | 21=>exact Pl.dead
   | 2=>rw[v2];exact Pl.ref (d:=.aq 24 [(0,0)]) ⟨⟨rfl,by simp,trivial⟩,⟨r1,0,none⟩,by rw[v24];rfl,rfl⟩
   | 3=>rw[v3];exact Pl.ref (d:=.aq 25 [(0,0)]) ⟨⟨rfl,by simp,trivial⟩,⟨r2,0,none⟩,by rw[v25];rfl,rfl⟩
   | 4=>rw[v4];exact Pl.ref (d:=.aq 23 [(0,0)]) ⟨⟨rfl,by simp,trivial⟩,⟨kx,0,none⟩,by rw[v23];rfl,rfl⟩
   | 22 =>
    rw[v22];refine⟨by simp,kk,_,t1,fun _ _=>False,rfl,hkk,rfl,fun j c' hj=>?_,.inl ⟨rfl,rfl⟩,fun _ _ h=>h.elim,fun _ _ _ _ h=>h.elim⟩
    match j with
    | 0=>cases hj;exact Pl.rd (up e1)
    | 1=>cases hj;exact Pl.rd (up e2)
    | 2=>cases hj;exact Pl.rd (up e3)
    | 3=>cases hj;exact af.nil
    | _+4=>cases hj
   | 23 =>
    rw[v23];refine⟨by simp,kx,_,t2,fun _ _=>False,rfl,hkx,rfl,fun j c' hj=>?_,.inr (.inl ⟨rfl,rfl⟩),fun _ _ h=>h.elim,fun _ _ _ _ h=>h.elim⟩
    match j with
    | 0=>cases hj;exact Pl.ref (d:=.aq 22 [(0,0)]) ⟨⟨rfl,by simp,trivial⟩,⟨kk,0,none⟩,by rw[v22];rfl,rfl⟩
    | _+1=>cases hj
   | 24 =>
    rw[v24];refine⟨by simp,r1,_,t3,fun _ _=>False,rfl,h1,rfl,fun j c' hj=>?_,.inr (.inr (.inl ⟨rfl,rfl⟩)),fun _ _ h=>h.elim,fun _ _ _ _ h=>h.elim⟩
    match j with
    | 0=>cases hj;exact Pl.rd .aF
    | _+1=>cases hj
   | 25 =>
    rw[v25];refine⟨by simp,r2,_,_,fun _ _=>False,rfl,h2,rfl,fun j c' hj=>?_,.inr (.inr (.inr ⟨rfl,rfl⟩)),fun _ _ h=>h.elim,fun _ _ _ _ h=>h.elim⟩
    match j with
    | 0=>cases hj;exact Pl.rd .bool
    | _+1=>cases hj
   | k+26 =>
    have:nth (bj c (List.replicate 17 .dead) [] .aF (.bool false)) (k+26)=.dead:=rfl;rw[this];exact Pl.dead
  ·exact Pl.dead
 ·obtain⟨d1,d2,d3,d4,d5,d6⟩:=hd
  rintro j k hjk b (⟨rfl,rfl⟩ | ⟨rfl,rfl⟩ | ⟨rfl,rfl⟩ | ⟨rfl,rfl⟩) (⟨rfl,h⟩ | ⟨rfl,h⟩ | ⟨rfl,h⟩ | ⟨rfl,h⟩)<;>first | exact hjk rfl | omega
 ·rcases hb with⟨rfl,_⟩ | ⟨rfl,_⟩ | ⟨rfl,_⟩ | ⟨rfl,_⟩<;>cases hk
def AH(X:List D)(r1 r2:D):List D:=[.dead,.dead,.aq 24 [(0,0)],.aq 25 [(0,0)],.aq 23 [(0,0)]]++X++[.dead,.box [.dead],.box [r1],.box [r2]]
def pP(c:Cat)(arr:List (List Int)):D:=.ptr [.vw (.ptr (aL c).cells),.vw (.ptr (aL c).cells),.vw (aB (ah c)),aB arr]
theorem wJ{w:World}{A:Nat->Prop}{v:Value}{d:D}(h:Rd w A v (.vw d)):Rd w A v d:=by cases h;assumption
theorem Mh{c:Cat}{arr:List (List Int)}{w:World}{A:Nat->Prop}{v:Value}(h:Rd w A v (pP c arr)):Rd w A v (.ptr [.ptr (aL c).cells,.ptr (aL c).cells,aB (ah c),aB arr]):=by
 unfold pP at h;cases h with
 | ptr hA vs hc hr =>
  refine .ptr hA vs (fun j x hj=>?_) fun j x hj=>?_
  ·match j with
   | 0=>exact hc 0 _ rfl
   | 1=>exact hc 1 _ rfl
   | 2=>exact hc 2 _ rfl
   | 3=>exact hc 3 _ rfl
   | _+4=>cases hj
  ·match j with
   | 0=>cases hj;exact wJ (hr 0 _ rfl)
   | 1=>cases hj;exact wJ (hr 1 _ rfl)
   | 2=>cases hj;exact wJ (hr 2 _ rfl)
   | 3=>cases hj;exact hr 3 _ rfl
   | _+4=>cases hj
theorem G4{cx:Ctx}{S M:Nat->Prop}{W:World}{env:List D}{x:D}{ts:Array Value}{k b:Nat}(hC:Cu cx S bV env ts M W)(hk:bV.length<=k/\k<1000)(hg:cx.gv k=pB b)(he:nth env k=.box [.o x]) :
  ∃v,W.cell? ⟨b,0,none⟩=some v/\Rd W (fun b=>b<W.heap.size/\(b<cx.w0.heap.size->cx.A0 b\/cx.F0 b)/\¬S b) v x:=by
 obtain⟨vl,fp,G,hp,htr,hgv,hS,hM⟩:=hC.ex;have h1:=hp.ok k;rw[cP,if_pos hk.2,he] at h1;obtain⟨h0,b',cs,e,Fs,e1,e2,e3,e4,e5,e6,e7⟩:=h1;rw[hgv k hk.1 hk.2,hg] at e1;cases e1;have:af W (ae cx fp G W) (cs.getD 0 undef) x (Fs 0):=e4 0 _ rfl;exact⟨_,cN e2 (by rw[e3];simp),this.rd (fun b hb=>⟨hb.1.1,fun h=>.inl (hb.1.2 h),fun hs=>hb.2.1 (hS b hs)⟩) fun b hb=>⟨(hp.lt k b (e6 0 b hb).2).1,fun h=>.inr ((hp.lt k b (e6 0 b hb).2).2.resolve_right (by omega)),fun hs=>hp.bh k b (e6 0 b hb).2 (hS b hs)⟩⟩
theorem GM{cx:Ctx}{r1 r2:Nat}(h24:cx.gv 24=pB r1)(h25:cx.gv 25=pB r2){ds:List Nat}{M:Nat->Prop}{a:Act}{w:World}{env:List D}{d1:D}{b2:Bool}{R:Ending->World->Prop}
  (hdf:a.defers=ds.map vy) (hnd:ds.Nodup) (hds:∀d∈ds,w.heap[d]?=some (.deferred (some []))) (hC:Cu cx (fun b=>b∈ds) bV env a.tmps M w) (n2:nth env 2=.aq 24 [(0,0)]) (n3:nth env 3=.aq 25 [(0,0)]) (e24:nth env 24=.box [d1]) (e25:nth env 25=.box [.bool b2]) (hd1:d1=.aF\/∃x,d1=.o x)
  (hR:∀(v1:Value)(w':World),cx.w0.heap.size<=w'.heap.size->(∀b,b<cx.w0.heap.size->¬cx.F0 b->w'.heap[b]?=cx.w0.heap[b]?)->w'.os=cx.w0.os->w'.tape=cx.w0.tape->bQ cx.w0 w' ->
    (d1=.aF->v1=.pointer none)->(∀x,d1=.o x->Rd w' (fun b=>b<w'.heap.size/\(b<cx.w0.heap.size->cx.A0 b\/cx.F0 b)) v1 x)->R (.returned (.tuple #[v1,.bool b2])) w') :
  bodyPostM Fence.wide 9 Try.prog Try.f20 R .ret a w:=by
 obtain⟨_,_,b3⟩:=hC.box (k:=24) ⟨by decide,by decide⟩ e24 h24;obtain⟨_,_,c3⟩:=hC.box (k:=25) ⟨by decide,by decide⟩ e25 h25;obtain⟨v1,hv1,hr1,ha1⟩:=b3 0 (by simp);obtain⟨v2,hv2,hr2,_⟩:=c3 0 (by simp);obtain rfl:v2=.bool b2:=lz (hr2 rfl trivial rfl);have t4:a.tmps.getD 4 undef=pB r1:=hC.aq (j:=2) rfl (by decide) n2 ⟨by decide,by decide⟩ ⟨_,e24⟩ h24;have t5:a.tmps.getD 5 undef=pB r2:=hC.aq (j:=3) rfl (by decide) n3 ⟨by decide,by decide⟩ ⟨_,e25⟩ h25;obtain⟨k1,k2,k3,k4,k5,k6⟩:=hC.OZ;show LeavesInM Fence.wide 9 Try.prog Try.f20 a.tmps R a.defers .returning w;rw[hdf];refine Bz ds w hnd hds fun w' hsz hsame hos htape hout hdr=>?_
 have hcell:∀{b:Nat}{v:Value},w.cell? ⟨b,0,none⟩=some v->w'.cell? ⟨b,0,none⟩=some v:=fun {b v} hv=>by
  refine(cell_of_heap (hsame b fun hb=>?_)).trans hv;have:=hds b hb;simp[World.cell?,this] at hv
 refine⟨.tuple #[v1,.bool b2],?_,hR v1 w' (by omega) (fun b hb hF=>?_) (hos.trans k3) (htape.trans k4) ((bQ.of hout hdr).trans k5) (fun h=>?_) fun x h=>?_⟩
 ·have q1:=hcell hv1
  have q2:=hcell hv2;generalize a.tmps=ts at t4 t5|-
  have t4':ts[4]?.getD undef=pB r1:=by simpa using t4
  have t5':ts[5]?.getD undef=pB r2:=by simpa using t5
  simp[results,Try.f20,go_sem,t4',t5',q1,q2]
 ·exact(hsame b fun hd=>(k6 b hd).elim hF fun h=>by omega).trans (k2 b hb hF)
 ·subst h
  have:=hr1 rfl trivial rfl;cases this;rfl
 ·subst h
  obtain⟨v,hv,hr⟩:=G4 hC ⟨by decide,by decide⟩ h24 e24;rw[hv1] at hv;cases hv;exact hr.mono (fun b hb=>⟨by have:=hb.1;omega,hb.2.1⟩) fun b hb=>hsame b hb.2.2
end Go.D3
namespace Go.D3
open Go Proofs
set_option maxRecDepth 100000
set_option maxHeartbeats 4000000
def kE(c:Cat):D:=if(ah c).length<=8 then(if(an c).length<=40 then .au [.ptr (ja c),.bool true] else .au [.aF,.bool false]) else .au [.aF,.bool false]
theorem Nw{P:Program}{f:FuncId}{xs:List D}{res:D}(h:aD P f (xs.map .v) res){w:World}{A:Nat->Prop}{vs:Array Value}(hg:ck w A)(hA:∀b,A b->b<w.heap.size)(hs:vs.size=xs.length)(hr:∀(j:Nat)(d:D),xs[j]?=some d->Rd w A (vs.getD j undef) d) :
  Calls P f vs w fun e w'=>∃v,e=.returned v/\Ext w w'/\Rd w' (NA A w w') v res:=by
 refine(h w A vs (fun _ _=>False) hg hA (by rw[hs];simp) (fun j a hj=>?_) (fun _ _ _ _ h=>h.elim) fun _ _ h=>h.elim).mono ?_
 ·rw[List.getElem?_map,Option.map_eq_some_iff] at hj
  obtain⟨d,hd,rfl⟩:=hj;exact⟨hr j d hd,fun _ h=>h⟩
 ·rintro e w' ⟨v,F,Fs',rfl,hsz,hown,_,hF,_,_,hsame,hos,htape,hout⟩
  refine⟨v,rfl,⟨hsz,fun b hb=>hsame b hb fun _ h=>h,hos,htape,hout⟩,hown.rd (fun b hb=>hb.imp_right fun h=>⟨h.1,h.2.1⟩) fun b hb=>.inr ⟨((hF b hb).2.1).resolve_right (fun⟨_,h⟩=>h),(hF b hb).1⟩⟩
theorem AG{c:Cat}{X:List D}{arr:List (List Int)}{r1 r2:D}(hX:X.length=17):nth (bj c X arr r1 r2) 2=.aq 24 [(0,0)]/\nth (bj c X arr r1 r2) 3=.aq 25 [(0,0)]/\nth (bj c X arr r1 r2) 24=.box [r1]/\nth (bj c X arr r1 r2) 25=.box [r2]:=by
 match X,hX with
 | [_,_,_,_,_,_,_,_,_,_,_,_,_,_,_,_,_],_=>exact⟨rfl,rfl,rfl,rfl⟩
theorem MX(c:Cat)(hb:c.cZ=true):aD Try.prog 20 [.v (.ptr (aL c).cells),.v (.ptr (aL c).cells)] (.vw (kE c)):=by
 obtain⟨hc,-,-⟩:=fS hb;have hfr:=hc.fr;intro w A vs Fs hg hA hn hpre hdis hFs
 obtain⟨f1,f2,rfl⟩:∃f1 f2,vs=#[f1,f2]:=by
  match vs,hn with
  | ⟨[x,y]⟩,_=>exact⟨x,y,rfl⟩
 have r1:Rd w A f1 (.ptr (aL c).cells):=(hpre 0 _ rfl).1;have r2:Rd w A f2 (.ptr (aL c).cells):=(hpre 1 _ rfl).1;obtain⟨fb1,fo1,rfl⟩:∃b off,f1=.pointer (some ⟨b,off,none⟩):=by cases r1;exact⟨_,_,rfl⟩
 obtain⟨fb2,fo2,rfl⟩:∃b off,f2=.pointer (some ⟨b,off,none⟩):=by cases r2;exact⟨_,_,rfl⟩
 have hE:∀j b,¬Fs j b:=fun j b hb=>by
  have:=(hFs j b hb).2.2
  match j,this with
  | 0,_=>exact(hpre 0 _ rfl).2 b hb
  | 1,_=>exact(hpre 1 _ rfl).2 b hb
 refine(callsIn_wide (n:=9)).1 (callsIn_of_wp_marks Try.func20 rfl trivial ?_ rfl);simp only[Try.ntmps20,List.size_toArray,List.length_cons,List.length_nil,Nat.reduceAdd,Nat.reduceSub,Array.replicate_succ,Array.replicate_zero,List.push_toArray,List.append_toArray,List.nil_append,List.cons_append];refine seq1 fun X Y hX=>?_
 gi_wp2
 obtain⟨rfl,rfl⟩:=hX;refine seq1 fun X Y hX=>?_
 have hcall:∀W,Ext w W->CallsIn Fence.wide 8 Try.prog 37 #[.pointer (some ⟨fb1,fo1,none⟩),.pointer (some ⟨fb2,fo2,none⟩)] W fun e w'=>∃v,e=.returned v/\Ext W w'/\Rd w' (NA A W w') v (aB (ah c)):=fun W hx=>by
  refine callsIn_wide.2 (Nw (xs:=[.ptr (aL c).cells,.ptr (aL c).cells]) (MW c hc) (hg.mono (fun _ h=>h) fun b hb=>hx.same b (hA b hb)) (fun b hb=>Nat.lt_of_lt_of_le (hA b hb) hx.size) rfl fun j d hj=>?_)
  match j with
  | 0=>cases hj;exact r1.mono (fun _ h=>h) fun b hb=>hx.same b (hA b hb)
  | 1=>cases hj;exact r2.mono (fun _ h=>h) fun b hb=>hx.same b (hA b hb)
  | _+2=>cases hj
 gi_wp2
 rename_i hK;refine⟨trivial,(hcall _ ((Ext.alloc _ _).trans (Ext.alloc _ _))).mono ?_⟩;rintro e w1 ⟨v,rfl,hx1,hrv⟩;obtain⟨op,oc,rfl⟩:=wH hrv;refine hK _ _ ?_
 gi_wp2
 generalize hW0:(w.alloc (.cells #[.pointer none] 46)).alloc (.cells #[.bool false] 4)=W0 at hx1 hrv;have z0:W0.heap.size=w.heap.size+2:=by rw[<-hW0];simp
 have x0:Ext w W0:=by rw[<-hW0];exact(Ext.alloc _ _).trans (Ext.alloc _ _)
 have h1:W0.heap[w.heap.size]?=some (.cells #[.pointer none] 46):=by rw[<-hW0];exact(heap_alloc_old _ _ (by simp)).trans (World.alloc_heap_new _ _)
 have h2:W0.heap[w.heap.size+1]?=some (.cells #[.bool false] 4):=by rw[<-hW0];have:=World.alloc_heap_new (w.alloc (.cells #[.pointer none] 46)) (.cells #[.bool false] 4);rwa [World.size_alloc] at this
 have main:∀(a0:Act)(w2:World),a0.tmps.size=75->a0.defers=[]->a0.tmps.getD 4 undef=pB w.heap.size->a0.tmps.getD 5 undef=pB (w.heap.size+1)->a0.tmps.getD 6 undef=pB (w1.heap.size+1) ->
   w2=(w1.alloc (.cells #[.pointer (some ⟨fb1,fo1,none⟩),.pointer (some ⟨fb2,fo2,none⟩),.slice op (ah c).length oc,.slice none 0 0] 64)).alloc (.cells #[pB w1.heap.size] 46)->X.wpIn Fence.wide 9 Try.prog Y a0 w2:=by
  obtain⟨rfl,rfl⟩:=hX;intro a0 w2 s0 d0 t4 t5 t6 hw2;have z1:=hx1.size;have z2:w2.heap.size=w1.heap.size+2:=by rw[hw2];simp
  have x2:Ext w1 w2:=by rw[hw2];exact(Ext.alloc _ _).trans (Ext.alloc _ _)
  have x02:=x0.trans (hx1.trans x2);have hkk:w2.heap[w1.heap.size]?=some (.cells #[.pointer (some ⟨fb1,fo1,none⟩),.pointer (some ⟨fb2,fo2,none⟩),.slice op (ah c).length oc,.slice none 0 0] 64):=by rw[hw2];exact(heap_alloc_old _ _ (by simp)).trans (World.alloc_heap_new _ _)
  have hkx:w2.heap[w1.heap.size+1]?=some (.cells #[pB w1.heap.size] 46):=by rw[hw2];have:=World.alloc_heap_new (w1.alloc (.cells #[.pointer (some ⟨fb1,fo1,none⟩),.pointer (some ⟨fb2,fo2,none⟩),.slice op (ah c).length oc,.slice none 0 0] 64)) (.cells #[pB w1.heap.size] 46);rwa [World.size_alloc] at this
  have hA1:∀b,NA A W0 w1 b->b<w1.heap.size/\b≠w.heap.size/\b≠w.heap.size+1:=fun b hb=>by
   rcases hb with hb | hb
   ·have:=hA b hb;omega
   ·omega
  have sA:∀b,A b->w2.heap[b]?=w.heap[b]?:=fun b hb=>x02.same b (hA b hb)
  have e1:Rd w2 (NA A W0 w1) (.pointer (some ⟨fb1,fo1,none⟩)) (.ptr (aL c).cells):=r1.mono (fun _ h=>.inl h) sA;have e2:Rd w2 (NA A W0 w1) (.pointer (some ⟨fb2,fo2,none⟩)) (.ptr (aL c).cells):=r2.mono (fun _ h=>.inl h) sA;have e3:Rd w2 (NA A W0 w1) (.slice op (ah c).length oc) (aB (ah c)):=hrv.mono (fun _ h=>h) fun b hb=>x2.same b (hA1 b hb).1
  have g2:ck w2 (NA A W0 w1):=hg.mono (fun _ h=>.inl h) sA;have up:∀{v:Value}{d:D},Rd w2 (NA A W0 w1) v d->Rd w2 (fun b=>NA A W0 w1 b\/b=w1.heap.size\/b=w1.heap.size+1) v d:=fun h=>h.mono (fun _ h=>.inl h) fun _ _=>rfl
  have hK:Rd w2 (fun b=>NA A W0 w1 b\/b=w1.heap.size\/b=w1.heap.size+1) (pB (w1.heap.size+1)) (.ptr [.ptr [.ptr (aL c).cells,.ptr (aL c).cells,aB (ah c),aB []]]):=by
   refine .ptr (.inr (.inr rfl)) (fun _=>pB w1.heap.size) (fun j x hj=>?_) fun j x hj=>?_
   ·match j with
    | 0=>exact cN hkx (by simp)
    | _+1=>cases hj
   ·match j with
    | 0 =>
     cases hj;refine .ptr (.inr (.inl rfl)) (fun j=>#[.pointer (some ⟨fb1,fo1,none⟩),.pointer (some ⟨fb2,fo2,none⟩),.slice op (ah c).length oc,.slice none 0 0].getD j undef) (fun j x hj=>?_) fun j x hj=>?_
     ·rw[Nat.zero_add]
      exact cN hkk (by have:=(List.getElem?_eq_some_iff.1 hj).1;simpa using this)
     ·match j with
      | 0=>cases hj;exact up e1
      | 1=>cases hj;exact up e2
      | 2=>cases hj;exact up e3
      | 3=>cases hj;exact .nil
      | _+4=>cases hj
    | _+1=>cases hj
  refine wpIn_seq (wpIn_seq ?_)
  refine mR (tr:=[6,25]) (nt:=75) (A:=fun b=>NA A W0 w1 b\/b=w1.heap.size\/b=w1.heap.size+1) dp [1] (oL [.ld (.v 0),.dc (.t 0),.fA 2 (.t 1),.ld (.t 2),.len (.t 3),.bin .gtr (.t 4) (.i 8)]) [(1,5)]
   (env:=[.ptr [.ptr [.ptr (aL c).cells,.ptr (aL c).cells,aB (ah c),aB []]],.dead]) [.ptr [.ptr [.ptr (aL c).cells,.ptr (aL c).cells,aB (ah c),aB []]],.bool (decide ((8:Int)<((ah c).length:Int)))]
   (fun b hb=>by rcases hb with hb | rfl | rfl<;>first | omega | (have:=hA1 b hb;omega)) (g2.mono (fun _ h=>.inl h) fun _ _=>rfl) s0 (by simp) (by simp) ⟨.inr ⟨rfl,trivial,by rw[t6];exact hK⟩,.inl rfl,trivial⟩ (by decide +kernel) (by decide +kernel) (by decide +kernel) ?_ ?_
  ·simp only[cV]
   simp only[go_sem]
  intro a3 w3 f3 h3;have t25:a3.tmps.getD 25 undef=.bool (decide ((8:Int)<((ah c).length:Int))):=lz (h3.rd 1 25 _ rfl rfl rfl trivial);have x3:=h3.ext;have z3:=x3.size;have w23:∀{b o},w2.heap[b]?=some o->w3.heap[b]?=some o:=fun hb=>(x3.same _ (Array.getElem?_eq_some_iff.1 hb).1).trans hb
  have w02:∀{b o},W0.heap[b]?=some o->w3.heap[b]?=some o:=fun hb=>w23 (((hx1.trans x2).same _ (Array.getElem?_eq_some_iff.1 hb).1).trans hb)
  have s23:∀b,NA A W0 w1 b->w3.heap[b]?=w2.heap[b]?:=fun b hb=>x3.same b (by have:=hA1 b hb;omega)
  have hAC:∀b,NA A W0 w1 b->b<w3.heap.size/\¬(b=w1.heap.size\/b=w1.heap.size+1\/b=w.heap.size\/b=w.heap.size+1):=fun b hb=>by have:=hA1 b hb;omega
  have hg3:ck w3 (NA A W0 w1):=g2.mono (fun _ h=>h) s23;have hk4:∀t∈[4,5,6],a3.tmps.getD t undef=a0.tmps.getD t undef:=fun t ht=>ik (ts:=[4,5,6]) (by decide +kernel) f3 ht
  obtain⟨M3,C3⟩:=GZ (c:=c) (hA:=hAC) (hg:=hg3) (w23 hkk) (w23 hkx) (w02 h1) (w02 h2) (by omega) (e1.mono (fun _ h=>h) s23) (e2.mono (fun _ h=>h) s23) (e3.mono (fun _ h=>h) s23)
   ((hk4 4 (by simp)).trans t4) ((hk4 5 (by simp)).trans t5) ((hk4 6 (by simp)).trans t6)
  have A3:gh c (pz w3 (NA A W0 w1) w1.heap.size (w1.heap.size+1) w.heap.size (w.heap.size+1) hAC hg3) (List.replicate 17 .dead) [] a3 w3:=⟨[],M3,h3.size,h3.cG.trans d0,List.nodup_nil,fun _ hd=>(List.not_mem_nil hd).elim,C3⟩;clear C3 h3 f3;have x03:=x02.trans x3;have hs0:∀b,b<w.heap.size->w3.heap[b]?=w.heap[b]?:=x03.same
  have fin:∀(a':Act)(w':World)(env:List D)(d1:D)(b2:Bool)(ds:List Nat)(M:Nat->Prop),a'.defers=ds.map vy->ds.Nodup->(∀d∈ds,w'.heap[d]?=some (.deferred (some []))) ->
    Cu (pz w3 (NA A W0 w1) w1.heap.size (w1.heap.size+1) w.heap.size (w.heap.size+1) hAC hg3) (fun b=>b∈ds) bV env a'.tmps M w'->(nth env 2=.aq 24 [(0,0)]/\nth env 3=.aq 25 [(0,0)]/\nth env 24=.box [d1]/\nth env 25=.box [.bool b2]) ->
    ((d1=.aF/\kE c=.au [.aF,.bool b2])\/(d1=.o (pP c (an c))/\kE c=.au [.ptr (ja c),.bool b2])) ->
    bodyPostM Fence.wide 9 Try.prog Try.f20 (fun e w'=>∃(v:Value)(F:Nat->Prop)(Fs':Nat->Nat->Prop),e=.returned v/\w.heap.size<=w'.heap.size /\
     af w' (fun b=>A b\/(w.heap.size<=b/\b<w'.heap.size/\¬F b/\∀j,¬Fs' j b)) v (.vw (kE c)) F /\
     (∀(j:Nat)(a:Arg),[Arg.v (.ptr (aL c).cells),Arg.v (.ptr (aL c).cells)][j]?=some a->a.post w' (fun b=>A b\/(w.heap.size<=b/\b<w'.heap.size/\¬F b/\∀j,¬Fs' j b)) (#[Value.pointer (some ⟨fb1,fo1,none⟩),.pointer (some ⟨fb2,fo2,none⟩)].getD j undef) (Fs' j)) /\
     (∀b,F b->b<w'.heap.size/\(w.heap.size<=b\/∃j,Fs j b)/\∀j,¬Fs' j b)/\(∀j b,Fs' j b->b<w'.heap.size/\(w.heap.size<=b\/∃j,Fs j b)/\j < [Arg.v (.ptr (aL c).cells),Arg.v (.ptr (aL c).cells)].length)/\(∀i j b,i≠j->Fs' i b->¬Fs' j b) /\
     (∀b,b<w.heap.size->(∀j,¬Fs j b)->w'.heap[b]?=w.heap[b]?)/\w'.os=w.os/\w'.tape=w.tape/\bQ w w') .ret a' w':=by
   intro a' w' env d1 b2 ds M hdf hnd hds hC hE hcs;refine GM (r1:=w.heap.size) (r2:=w.heap.size+1) rfl rfl hdf hnd hds hC hE.1 hE.2.1 hE.2.2.1 hE.2.2.2 (hcs.imp And.left fun h=>⟨_,h.1⟩) fun v1 w4 k1 k2 k3 k4 k5 k6 k7=>?_
   have k1:w3.heap.size<=w4.heap.size:=k1;refine⟨_,fun _=>False,fun _ _=>False,rfl,by omega,.vw ?_,fun j a hj=>?_,fun _ h=>h.elim,fun _ _ h=>h.elim,fun _ _ _ _ h=>h.elim,fun b hb _=>(k2 b (by show b<w3.heap.size;omega) (by show ¬(b=_\/_);omega)).trans (hs0 b hb),k3.trans x03.os,k4.trans x03.tape,k5.trans x03.output⟩
   ·rcases hcs with⟨rfl,hc2⟩ | ⟨rfl,hc2⟩
    ·rw[hc2,k6 rfl]
     refine .au rfl fun j x hj=>?_
     match j with
     | 0=>cases hj;exact .aF
     | 1=>cases hj;exact .bool
     | _+2=>cases hj
    ·rw[hc2]
     refine .au rfl fun j x hj=>?_
     match j with
     | 0 =>
      cases hj;refine(Mh (k7 _ rfl)).mono (fun b hb=>?_) fun _ _=>rfl
      by_cases hlt:b<w3.heap.size
      ·rcases hb.2 hlt with h | h
       ·rcases h with h | h
        ·exact .inl h
        ·exact .inr ⟨by omega,hb.1,fun h=>h,fun _ h=>h⟩
       ·have h:b=w1.heap.size\/b=w1.heap.size+1\/b=w.heap.size\/b=w.heap.size+1:=h
        exact .inr ⟨by omega,hb.1,fun h=>h,fun _ h=>h⟩
      ·exact .inr ⟨by omega,hb.1,fun h=>h,fun _ h=>h⟩
     | 1=>cases hj;exact .bool
     | _+2=>cases hj
   ·match j with
    | 0=>cases hj;exact fun _ h=>h
    | 1=>cases hj;exact fun _ h=>h
    | _+2=>cases hj
  clear h1 h2 hkk hkx hK;simp only[Exit.then];by_cases h8:(ah c).length<=8
  ·rw[decide_eq_false (by omega)] at t25
   refine wpIn_cond_false t25 (wpIn_skip ?_);simp only[Exit.then];refine wpIn_seq (wpIn_seq ?_);refine A3.text [11,12] (oL [.ld (.v 4),.dc (.t 0),.fA 2 (.t 1),.ld (.t 2),.len (.t 3),.bY 13 (.i 0)]) [(11,3),(12,4)] (xO c 0 .dead) (by decide +kernel) (by decide +kernel) ?_ ?_
   ·simp only[bj,xO,cV,List.replicate]
    simp only[go_sem]
   intro a4 w4 _ A4;simp only[Exit.then];refine GO c hb (kk:=w1.heap.size) (kx:=w1.heap.size+1) rfl rfl h8 A4 ?_ ?_
   ·intro a5 w5 h40 A5
    obtain⟨ds,M5,q1,q2,q3,q4,q5⟩:=A5.ex;simp only[Exit.then];refine wpIn_seq ?_;refine nK (nt:=75) dp [] (oL [.ld (.v 4),.st (.v 2) (.t 0),.st (.v 3) (.k (.bool true))]) [] (K:=fun e=>e=AH (xO c (ah c).length (.bool false)) (.o (pP c (an c))) (.bool true)) q5 q1 (by decide +kernel) (by decide +kernel) (by decide +kernel) ?_ ?_
    ·simp only[bj,AH,pP,xO,cV]
     simp only[go_sem];exact⟨rfl,rfl,rfl⟩
    rintro a6 w6 _ M6 rfl f6 g6 C6 k6;refine wpIn_ret ?_;exact fin a6 w6 _ _ _ ds M6 (g6.trans q2) q3 (fun d hd=>(k6.stay d hd).trans (q4 d hd)) C6 ⟨rfl,rfl,rfl,rfl⟩ (.inr ⟨rfl,by unfold kE;rw[if_pos h8,if_pos h40]⟩)
   ·intro a5 w5 X arr' h40 hX A5
    obtain⟨ds,M5,q1,q2,q3,q4,q5⟩:=A5.ex;exact fin a5 w5 _ .aF false ds M5 q2 q3 q4 q5 (AG hX) (.inl ⟨rfl,by unfold kE;rw[if_pos h8,if_neg (by omega)]⟩)
  ·rw[decide_eq_true (by omega)] at t25
   refine wpIn_cond_true t25 (wpIn_seq ?_);refine A3.text [] (oL [.st (.v 2) (.k .aF),.st (.v 3) (.k (.bool false))]) [] (List.replicate 17 .dead) (by decide +kernel) (by decide +kernel) ?_ ?_
   ·simp only[bj,cV,List.replicate]
    simp only[go_sem]
   intro a4 w4 _ A4;obtain⟨ds,M5,q1,q2,q3,q4,q5⟩:=A4.ex;refine wpIn_ret ?_;exact fin a4 w4 _ .aF false ds M5 q2 q3 q4 q5 (AG rfl) (.inl ⟨rfl,by unfold kE;rw[if_neg h8]⟩)
 exact main _ _ rfl rfl rfl rfl rfl rfl
end Go.D3
