/- A REGION IN ANY FRAME, A ROUND'S TOO: what it shows over data that are only read; a call of yield behind all else. Generic. -/
import Derived.Test.YtaknpcdnmecblaaHG
import Derived.RangeFuncIn
import Derived.RangeFuncCalls
import Derived.OrdersIn
namespace Go.D3
open Go
set_option maxRecDepth 100000
structure FW(F:Fence):Prop where
 fn:∀f,F.fn f
 dep:F.depth=none
 calls:∀{n:Nat}{P:Program}{f:FuncId}{args:Array Value}{w:World}{R:Ending->World->Prop},Calls P f args w R->CallsIn F n P f args w R
 rows:∀{n:Nat}{P:Program}{row:String}{args:Array Value}{w:World}{R:Value->World->Prop},Rows P row args w R->RowsIn F n P row args w R
theorem dp:FW Fence.wide:=⟨fun _=>trivial,rfl,fun h=>callsIn_wide.2 h,fun h c cs _=>let⟨v,w',r,s⟩:=h c cs;⟨v,w',r,stepsIn_wide.2 s⟩⟩
theorem pI(l:Nat):FW (Fence.wide.inRound l):=⟨fun _=>trivial,rfl,fun h=>CallsIn.inRound l (callsIn_wide.2 h),fun h c cs _=>let⟨v,w',r,s⟩:=h c cs;⟨v,w',r,stepsIn_wide.2 s⟩⟩
section
variable{F:Fence}{n:Nat}{P:Program}{ops ops':Array Oper}{Q Q2:Exit->Act->World->Prop}
def fr(ops:Array Oper)(a a':Act):Prop:=a'.tmps.size=a.tmps.size/\∀t,(∀o∈ops.toList,o.dst≠some t)->a'.tmps.getD t undef=a.tmps.getD t undef
theorem pH(a:Act):fr ops a a:=⟨rfl,fun _ _=>rfl⟩
theorem mf{a0 a b:Act}{o:Oper}{v:Value}(h:fr ops a0 a)(ho:o∈ops.toList)(hb:b.tmps=a.tmps):fr ops a0 (b.put o.dst v):=by
 have key:(b.put o.dst v).tmps=match o.dst with | some d=>a.tmps.setIfInBounds d v | none=>a.tmps:=by
  unfold Act.put;cases o.dst<;>simp[hb]
 refine⟨?_,fun t ht=>?_⟩
 ·rw[key,<-h.1]
  cases o.dst<;>simp
 ·rw[key,<-h.2 t ht]
  have:=ht o ho;cases hd:o.dst with
  | none=>rfl
  | some d=>exact getD_set_ne _ (fun e=>this (by rw[hd,e]))
def dz(o:Oper):Bool:=match o.op with | .defer _=>false | _=>true
theorem BZ{o:Oper}(h:dz o=true)(c:Call):o.op≠.defer c:=fun e=>by unfold dz at h;rw[e] at h;cases h
theorem Lu(hF:FW F){o:Oper}(hm:o∈ops.toList)(hnd:dz o=true){K:Act->World->Prop}{a0 a:Act}{w:World}(hfr:fr ops a0 a)(hp:∀c a w,Q (.panic c) a w->Q2 (.panic c) a w)(hl:¬LetsOut Q)(h:o.wp P a w K Q) :
  o.wpIn F n P a w (fun a' w'=>K a' w'/\fr ops a0 a') Q2:=by
 refine⟨fun f _=>hF.fn f,?_⟩;rw[Oper.semAt_eq _ _ _ (BZ hnd)];unfold Oper.wp at h;generalize(execOp a.eval o).run P w=r at h|-
 have hd:F.depth.isSome=true->1<=n:=fun hs=>by rw[hF.dep] at hs;cases hs
 cases r with
 | ok x w' =>
  cases x<;>simp only[Oper.upon,Oper.uponIn] at h|-<;>try(exact h.elim)
  ·exact⟨h,mf hfr hm rfl⟩
  ·exact⟨h,mf hfr hm rfl⟩
  ·refine⟨hd,hF.calls (Calls.mono h fun e w'' he=>?_)⟩
   cases e with
   | returned v=>exact⟨he,mf hfr hm rfl⟩
   | panicked c=>exact hp _ _ _ he
   | outgrown=>exact absurd he hl
  ·exact⟨h,mf hfr hm rfl⟩
  ·exact⟨hd,hF.rows (Rows.mono h fun v w'' he=>⟨he,mf hfr hm rfl⟩)⟩
 | halt x w' =>
  cases x<;>simp only[Oper.upon,Oper.uponIn] at h|-<;>try(exact h.elim)
  exact hp _ _ _ h
theorem Pn(hy:∀i:Nat,(ops'[i]?).bind (fun o=>o.dst)=(ops[i]?).bind fun o=>o.dst)(ts:Array Value):yielded ops' ts=yielded ops ts:=by
 funext i;unfold yielded;rw[hy i]
theorem wu(hF:FW F)(hnd:∀o∈ops.toList,dz o=true)(hy:∀i:Nat,(ops'[i]?).bind (fun o=>o.dst)=(ops[i]?).bind fun o=>o.dst)(hp:∀c a w,Q (.panic c) a w->Q2 (.panic c) a w)(hl:¬LetsOut Q){a0:Act}{R:List Nat}:∀(X:List Nat),(∀i∈X,ops[i]?=ops'[i]?)->∀(a:Act)(w:World),fr ops a0 a->wpOps P ops' Q (X++R) a w ->
  (∀a w,fr ops a0 a->wpOps P ops' Q R a w->wpOpsIn F n P ops Q2 R a w)->wpOpsIn F n P ops Q2 (X++R) a w
 | [],_,a,w,hfr,h,hR=>hR a w hfr h
 | i::X,hX,a,w,hfr,h,hR=>by
  have hi:=hX i List.mem_cons_self;have ih:=fun a w hfr h=>wu hF hnd hy hp hl (R:=R) X (fun j hj=>hX j (List.mem_cons_of_mem _ hj)) a w hfr h hR
  rw[List.cons_append] at h|-
  rw[wpOps_cons] at h;rw[wpOpsIn_cons];unfold wpOp at h;unfold wpOpIn;rw[<-hi] at h;cases ho:ops[i]? with
  | none=>rw[ho] at h;exact ih _ _ hfr h
  | some o =>
   have hm:o∈ops.toList:=Array.mem_def.1 (Array.mem_of_getElem? ho);rw[ho] at h;simp only[Pn hy] at h|-
   split
   ·rename_i hw
    rw[if_pos hw] at h;rcases h with h | h
    ·exact Oper.wpIn_mono (fun a w h=>ih a w h.2 h.1) (Lu hF hm (hnd o hm) hfr hp hl h)
    ·exact absurd h.2 hl
   ·rename_i hw
    rw[if_neg hw] at h;exact⟨fun f _=>hF.fn f,ih _ _ (mf hfr hm rfl) h⟩
theorem wq(hF:FW F)(hnd:∀o∈ops.toList,dz o=true)(hp:∀c a w,Q (.panic c) a w->Q2 (.panic c) a w)(hl:¬LetsOut Q){a0:Act}(hQ:∀a w,Q .normal a w->fr ops a0 a->Q2 .normal a w)(L:List Nat)(a:Act)(w:World)(hfr:fr ops a0 a)(h:wpOps P ops Q L a w):wpOpsIn F n P ops Q2 L a w:=by
 have:=wu (ops:=ops) (ops':=ops) (Q:=Q) (Q2:=Q2) (a0:=a0) (R:=[]) (n:=n) hF hnd (fun _=>rfl) hp hl L (fun _ _=>rfl) a w hfr (by simpa using h) fun a w hf h=>by
  simp only[wpOps] at h;simp only[wpOpsIn];exact hQ a w h hf
 simpa using this
theorem G7(h:∀i:Nat,(ops'[i]?).map (fun o=>o.after)=(ops[i]?).map fun o=>o.after):∀(L:List Nat)(T:Array Bool),CV ops T L->CV ops' T L:=by
 have hr:∀(T:Array Bool)(i:Nat),i∈Region.ready .any ops T↔i∈Region.ready .any ops' T:=fun T i=>by
  rw[mem_ready,mem_ready];have hi:=h i;constructor
  ·rintro⟨h1,o,ho,h2⟩
   rw[ho] at hi;cases ho':ops'[i]? with
   | none=>rw[ho'] at hi;cases hi
   | some o'=>rw[ho'] at hi;simp only[Option.map_some,Option.some.injEq] at hi;exact⟨h1,o',rfl,by rw[hi];exact h2⟩
  ·rintro⟨h1,o,ho,h2⟩
   rw[ho] at hi;cases ho':ops[i]? with
   | none=>rw[ho'] at hi;cases hi
   | some o'=>rw[ho'] at hi;simp only[Option.map_some,Option.some.injEq] at hi;exact⟨h1,o',rfl,by rw[<-hi];exact h2⟩
 intro L;induction L with
 | nil =>
  intro T hc;simp only[CV] at hc|-
  rw[List.eq_nil_iff_forall_not_mem] at hc|-
  exact fun i hi=>hc i ((hr T i).2 hi)
 | cons k L ih =>
  intro T hc;exact⟨(hr T k).1 hc.1,ih _ hc.2⟩
def oo(ops:Array Oper):Nat->Array Bool->List (List Nat)
 | 0,_=>[[]]
 | f+1,T=>if(Region.ready .any ops T).isEmpty then[[]] else(Region.ready .any ops T).flatMap fun k=>(oo ops f (T.setIfInBounds k true)).map (k::·)
theorem Aq:∀(L:List Nat)(f:Nat)(T:Array Bool),L.length<=f->CV ops T L->L∈oo ops f T
 | [],0,_,_,_=>by simp[oo]
 | [],f+1,T,_,h=>by
  simp only[CV] at h;simp[oo,h]
 | k::L,0,_,h,_=>by simp at h
 | k::L,f+1,T,hl,h=>by
  have hne:(Region.ready .any ops T).isEmpty=false:=by
   cases he:Region.ready .any ops T with
   | nil=>have:=h.1;rw[he] at this;cases this
   | cons _ _=>rfl
  simp only[oo,hne,Bool.false_eq_true,if_false,List.mem_flatMap,List.mem_map];exact⟨k,h.1,L,Aq L f _ (by simpa using hl) h.2,rfl⟩
theorem Ap:∀(L:List Nat)(T:Array Bool),iF ops T->CV ops T L->L.length<=ek ops T
 | [],_,_,_=>Nat.zero_le _
 | i::L,T,hT,⟨hr,hc⟩=>by
  obtain⟨r1,r2,r3⟩:=ox hT hr;have:=Ap L _ (pv hT r1 r3) hc;have:=qE hT.1 r1 r2;simp only[List.length_cons];omega
theorem Gc{k:Nat}(hE:eo ops.toList=true)(_:k<=ops.size)(hk:∀j,k<=j->j<ops.size->∀x,x<k->dy (cF [] ops.toList) j x=true) :
  ∀(L:List Nat)(T:Array Bool),iF ops T->(∀j,k<=j->T.getD j false=false)->CV ops T L->∃X R,L=X++R/\(∀i∈X,i<k)/\CV ops ((Array.range ops.size).map fun j=>decide (j<k)) R:=by
 intro L;induction L with
 | nil =>
  intro T hT hu hc;refine⟨[],[],rfl,(fun _ h=>by cases h),?_⟩
  have:T=(Array.range ops.size).map fun j=>decide (j<k):=by
   refine Array.ext (by simp[hT.1]) fun i h1 h2=>?_
   simp only[Array.getElem_map,Array.getElem_range];have e:T[i]=T.getD i false:=by simp[Array.getD,h1]
   rw[e];by_cases hi:i<k
   ·rw[decide_eq_true hi]
    cases h:T.getD i false with
    | true=>rfl
    | false=>exact absurd hc (wM hE hT.1 (by rw[<-hT.1];exact h1) h)
   ·rw[decide_eq_false hi];exact hu i (by omega)
  rw[<-this];exact hc
 | cons i L ih =>
  intro T hT hu hc;obtain⟨hr,hc'⟩:=hc;obtain⟨r1,r2,r3⟩:=ox hT hr;by_cases hik:i<k
  ·obtain⟨X,R,e,hX,hR⟩:=ih _ (pv hT r1 r3) (fun j hj=>by rw[fM (by omega)];exact hu j hj) hc'
   exact⟨i::X,R,by rw[e];rfl,fun j hj=>by rcases List.mem_cons.1 hj with rfl | hj;exact hik;exact hX j hj,hR⟩
  ·refine⟨[],i::L,rfl,(fun _ h=>by cases h),?_⟩
   have:T=(Array.range ops.size).map fun j=>decide (j<k):=by
    refine Array.ext (by simp[hT.1]) fun x h1 h2=>?_
    simp only[Array.getElem_map,Array.getElem_range];have e:T[x]=T.getD x false:=by simp[Array.getD,h1]
    rw[e];by_cases hx:x<k
    ·rw[decide_eq_true hx];exact r3 x (hk i (by omega) r1 x hx)
    ·rw[decide_eq_false hx];exact hu x (by omega)
   rw[<-this];exact⟨hr,hc'⟩
theorem Af:iF ops (Array.replicate ops.size false):=⟨by simp,fun j hj=>by
 have:(Array.replicate ops.size false).getD j false=false:=by simp[Array.getD]
 rw[this] at hj;cases hj⟩
end
section
variable{A:Nat->Prop}{w:World}
def Env(tr:List Nat)(ts:Array Value)(w:World)(A:Nat->Prop)(env:List D):Prop:=∀(j t:Nat)(d:D),tr[j]?=some t->env[j]?=some d->d=.dead\/(d.bC=true/\d.refs cz/\Rd w A (ts.getD t undef) d)
def nk(ts:Array Value)(w:World)(A:Nat->Prop):List Nat->List D->Prop
 | t::tr,d::env=>(d=.dead\/(d.bC=true/\d.refs cz/\Rd w A (ts.getD t undef) d))/\nk ts w A tr env
 | _,_=>True
theorem rz{ts:Array Value}:∀{tr:List Nat}{env:List D},nk ts w A tr env->Env tr ts w A env
 | [],_,_,_,_,_,h,_=>by simp at h
 | _::_,[],_,_,_,_,_,h=>by simp at h
 | t::tr,d::env,h,0,_,_,h1,h2=>by simp at h1 h2;subst h1 h2;exact h.1
 | t::tr,d::env,h,j+1,_,_,h1,h2=>rz h.2 j _ _ (by simpa using h1) (by simpa using h2)
end
section
variable[Mode]{F:Fence}{n:Nat}{P:Program}{ops ops':Array Oper}{Q:Exit->Act->World->Prop}{tr:List Nat}{nt:Nat}{env:List D}{A:Nat->Prop}{a:Act}{w:World}
def NA(A:Nat->Prop)(w w':World)(b:Nat):Prop:=A b\/(w.heap.size<=b/\b<w'.heap.size)
abbrev mb(w:World)(A:Nat->Prop)(hA:∀b,A b->b<w.heap.size)(hgl:ck w A)(cG:List Deferred):Ctx:=⟨w,fun _=>False,A,fun _=>undef,fun b hb=>⟨hA b hb,fun h=>h⟩,hgl,cG⟩
theorem uk(hA:∀b,A b->b<w.heap.size)(hgl:ck w A)(hsz:a.tmps.size=nt)(hl:env.length<=tr.length)(_:tr.length<1000)(he:Env tr a.tmps w A env):Bm (mb w A hA hgl a.defers) nt tr env a w:=by
 let vl:Nat->Value:=fun k=>match tr[k]? with | some t=>a.tmps.getD t undef | none=>undef
 have stb:∀b,A b->ae (mb w A hA hgl a.defers) (fun _ _=>False) (fun _=>False) w b:=fun b hb=>⟨⟨hA b hb,fun _=>hb⟩,fun h=>h,fun _ h=>h⟩
 refine⟨⟨vl,fun _ _=>False,fun _=>False,⟨fun k=>?_,fun _ _ _ _ h=>h.elim,fun _ _ h=>h.elim,fun _ _ _ h=>h,fun _ _ h=>h.elim,fun _ h=>h.elim,Nat.le_refl _,fun _ _ _=>rfl,rfl,rfl,.refl _⟩,fun j t hj _=>by simp only[vl,hj],fun i t hi _=>by simp at hi,fun k h1 _=>by simp only[vl,List.getElem?_eq_none h1]⟩,rfl,fun j hj=>by simp at hj,hsz,rfl⟩;show az _ _ _ _ _ ((⟨env,0,[]⟩:St).cont k);rw[cP];split
 ·rw[lh]
  cases hk:env[k]? with
  | none=>exact Pl.dead
  | some d =>
   have hlt:=(List.getElem?_eq_some_iff.1 hk).1;have ht:tr[k]?=some tr[k]:=List.getElem?_eq_getElem (by omega);rcases he k _ d ht hk with rfl | ⟨h1,h2,h3⟩
   ·exact Pl.dead
   ·simp only[Option.getD_some,vl,ht]
    exact(jh h1).2 (.rd (h3.mono stb fun _ _=>rfl))
 ·exact Pl.dead
theorem Gf{a':Act}{w':World}{cG:List Deferred}{hA:∀b,A b->b<w.heap.size}{hgl:ck w A}(hlt:tr.length<1000)(h:Bm (mb w A hA hgl cG) nt tr env a' w'):Ext w w'/\a'.defers=cG/\a'.tmps.size=nt /\
  (∀(j t:Nat)(d:D),tr[j]?=some t->env[j]?=some d->d.bC=true->d.refs cz->Rd w' (NA A w w') (a'.tmps.getD t undef) d)/\∀(j t:Nat)(d:D),tr[j]?=some t->env[j]?=some (.o d)->Rd w' (NA A w w') (a'.tmps.getD t undef) d:=by
 obtain⟨vl,fp,G,hp,htr,_,_⟩:=h.ex
 have hc:∀(j t:Nat)(d:D),tr[j]?=some t->env[j]?=some d->az w' (ae (mb w A hA hgl cG) fp G w') (aa w' (⟨env,0,[]⟩:St).cont vl) (a'.tmps.getD t undef) (fp j) d:=fun j t d hj hd=>by
  have:=hp.ok j;rw[cP,if_pos (by have:=(List.getElem?_eq_some_iff.1 hj).1;omega),lh,hd,Option.getD_some,<-htr j t hj (by simp)] at this;exact this
 have stb:∀b,ae (mb w A hA hgl cG) fp G w' b->NA A w w' b:=fun b hb=>by
  by_cases hlt:b<w.heap.size
  ·exact .inl (hb.1.2 hlt)
  ·exact .inr ⟨by omega,hb.1.1⟩
 refine⟨⟨hp.size,fun b hb=>hp.same b hb fun h=>h,hp.os,hp.tape,hp.output⟩,h.defers,h.size,fun j t d hj hd h1 h2=>?_,fun j t d hj hd=>?_⟩
 ·exact(l5 ((jh h1).1 (hc j t d hj hd)) h2).mono stb fun _ _=>rfl
 ·have ho:af w' (ae (mb w A hA hgl cG) fp G w') (a'.tmps.getD t undef) d (fp j):=hc j t _ hj hd
  exact ho.rd stb fun b hb=>by
   obtain⟨h1,h2⟩:=hp.lt j b hb;exact .inr ⟨h2.resolve_left (fun h=>h),h1⟩
theorem Df{cx:Ctx}(hF:FW F){pre:List Nat}{l:List aO}{post:List (Nat×Nat)}{id:Nat}{K:St->Prop}(ht:dI nt tr=true)(hf:ed P nt tr ops false pre l post=true)(hnd:ops.toList.all dz=true)(h:Bm cx nt tr env a w)
  (hv:bA P K l (bF pre ⟨env,0,[]⟩)) (hQ:∀a' w' st,K st->fr ops a a'->Bm cx nt tr (fin post st) a' w'->Q .normal a' w'):(Code.region id ops false).wpIn F n P Q a w:=by
 have hS:=xA ht hf;rw[pC] at hS;simp only[ed,pC,Bool.and_eq_true,List.all_eq_true,decide_eq_true_eq] at hf;obtain⟨⟨⟨⟨⟨⟨⟨⟨hsz,h0⟩,_⟩,_⟩,hpo⟩,_⟩,hop⟩,_⟩,_⟩:=hf;obtain⟨vl,fp,G,hp,htr,htm,hgh⟩:=h.ex;obtain⟨fp',G',b1,b2,b3,b4,b5⟩:=pf pre hp h.wf
 have hFm:Fm cx nt tr pre (bx ops.toList l) (bF pre ⟨env,0,[]⟩) a w :=
  ⟨⟨vl,fp',G',b1,fun j t hj _=>htr j t hj (by simp),fun i t hi _=>by rw[b3] at hi;simp at hi,hgh⟩,b2,fun j hj=>b5 j (by simpa using hj),h.size,h.defers⟩
 have hlen:(bx ops.toList l).length=ops.size:=by rw[sX (by simpa using hsz)];simp
 obtain⟨p1,p2⟩:=sN hpo
 have:=wv (P:=P) (Q:=fun e a' w'=>e=.normal/\∃st,K st/\Bm cx nt tr (fin post st) a' w') (ops:=ops) hS (fun i t hi=>by have:=qu hi;simpa using this) ops.toList l 0 (by simp) h0 (fun s hs=>hop s hs) (by simp) b3 hFm hv
  (fun a w st hK hn hF=>⟨rfl,st,hK,sT hS hF (by rw[hlen,hn];simp) p1 p2⟩)
 rw[Array.length_toList,<-List.range_eq_range'] at this;exact wpIn_region (wq hF (fun o ho=>List.all_eq_true.1 hnd o ho) (fun c a w h=>by cases h.1) (fun⟨_,_,h⟩=>by cases h.1) (fun a' w' ⟨_,st,hK,hB⟩ hfr=>hQ a' w' st hK hfr hB) _ a w (pH a) this)
theorem Mo{cx:Ctx}(hF:FW F){pre:List Nat}{l:List aO}{post:List (Nat×Nat)}{id:Nat}{K:St->Prop}(ht:dI nt tr=true)(hf:ed P nt tr ops true pre l post=true)(hE:eo ops.toList=true)(hnd:ops.toList.all dz=true)(h:Bm cx nt tr env a w)
  (hv:bA P K l (bF pre ⟨env,0,[]⟩)) (hQ:∀a' w' st,K st->fr ops a a'->Bm cx nt tr (fin post st) a' w'->Q .normal a' w'):(Code.region id ops true).wpIn F n P Q a w:=by
 obtain⟨hm,hw⟩:=sS (Q:=fun e a' w'=>e=.normal/\∃st,K st/\Bm cx nt tr (fin post st) a' w') ht hf h hv fun a' w' st hK _ _ hB=>⟨rfl,st,hK,hB⟩
 refine wpIn_region_draw fun t=>?_
 simp only[Region.schedule,hm,Bool.true_or,if_true]
 exact wq hF (fun o ho=>List.all_eq_true.1 hnd o ho) (fun c a w h=>by cases h.1.1) (fun⟨_,_,h⟩=>by cases h.1.1) (fun a' w' ⟨⟨_,st,hK,hB⟩,_⟩ hfr=>hQ a' w' st hK hfr hB) _ a _ (pH a)
  (vr hw _ (py hE _ _ _ (by simp) (by unfold ek;exact Nat.le_trans (List.countP_le_length) (by simp))))
theorem Mp{cx:Ctx}(hF:FW F){pre:List Nat}{l:List aO}{post:List (Nat×Nat)}{id:Nat}(k:Nat){K:St->Prop}(ht:dI nt tr=true)(hf:ed P nt tr ops' true pre l post=true)(hE:eo ops.toList=true)(hnd:ops.toList.all dz=true)
  (hy:∀i:Nat,(ops'[i]?).bind (fun o=>o.dst)=(ops[i]?).bind fun o=>o.dst) (ha:∀i:Nat,(ops'[i]?).map (fun o=>o.after)=(ops[i]?).map fun o=>o.after) (hs:ops'.size=ops.size) (he:∀i,i<k->ops[i]?=ops'[i]?)
  (hkN:k<=ops.size) (hk:∀j,k<=j->j<ops.size->∀x,x<k->dy (cF [] ops.toList) j x=true)
  (h:Bm cx nt tr env a w) (hv:bA P K l (bF pre ⟨env,0,[]⟩)) (os:List (List Nat)) (ho:oo ops ops.size ((Array.range ops.size).map fun j=>decide (j<k))=os)
  (hR:∀R∈os,∀a' w',fr ops a a'->wpOps P ops' (fun e a' w'=>(e=.normal/\∃st,K st/\Bm cx nt tr (fin post st) a' w')/\∀c,e≠.panic c) R a' w'->wpOpsIn F n P ops Q R a' w'):(Code.region id ops true).wpIn F n P Q a w:=by
 obtain⟨hm,hw⟩:=sS (Q:=fun e a' w'=>e=.normal/\∃st,K st/\Bm cx nt tr (fin post st) a' w') ht hf h hv fun a' w' st hK _ _ hB=>⟨rfl,st,hK,hB⟩
 refine wpIn_region_draw fun t=>?_
 simp only[Region.schedule,hm,Bool.true_or,if_true];have hcv:=py hE ops.size t (Array.replicate ops.size false) (by simp) (by unfold ek;exact Nat.le_trans (List.countP_le_length) (by simp));obtain⟨X,R,e,hX,hc⟩:=Gc hE hkN hk _ _ Af (fun j _=>by simp[Array.getD]) hcv
 have hlen:R.length<=ops.size:=by
  have h1:=Ap _ _ Af hcv;rw[e,List.length_append] at h1;have:ek ops (Array.replicate ops.size false)<=ops.size:=by unfold ek;exact Nat.le_trans (List.countP_le_length) (by simp)
  omega
 have hmem:=Aq R ops.size _ hlen hc;rw[ho] at hmem;have hl:=vr hw _ (by rw[hs];exact G7 ha _ _ hcv);show wpOpsIn F n P ops Q (Region.linearise.go .any ops ops.size t (Array.replicate ops.size false) []) a _;rw[e] at hl|-
 exact wu (a0:=a) hF (fun o ho=>List.all_eq_true.1 hnd o ho) hy (fun c a w h=>by cases h.1.1) (fun⟨_,_,h⟩=>by cases h.1.1) X (fun i hi=>he i (hX i hi)) a _ (pH a) hl fun a' w' hfr hh=>hR R hmem a' w' hfr hh
structure oS(w:World)(A:Nat->Prop)(nt:Nat)(tr:List Nat)(cG:List Deferred)(env2:List D)(a':Act)(w':World):Prop where
 ext:Ext w w'
 cG:a'.defers=cG
 size:a'.tmps.size=nt
 rd:∀(j t:Nat)(d:D),tr[j]?=some t->env2[j]?=some d->d.bC=true->d.refs cz->Rd w' (NA A w w') (a'.tmps.getD t undef) d
 own:∀(j t:Nat)(d:D),tr[j]?=some t->env2[j]?=some (.o d)->d.bp=true->Rd w' (fun b=>w.heap.size<=b/\b<w'.heap.size) (a'.tmps.getD t undef) d
theorem tU{env2:List D}{a':Act}{w':World}{cG:List Deferred}{hA:∀b,A b->b<w.heap.size}{hgl:ck w A}(hlt:tr.length<1000)(h:Bm (mb w A hA hgl cG) nt tr env2 a' w'):oS w A nt tr cG env2 a' w':=by
 obtain⟨b1,b2,b3,b4,_⟩:=Gf hlt h;refine⟨b1,b2,b3,b4,fun j t d hj hd hn=>?_⟩;obtain⟨vl,fp,G,hp,htr,_,_⟩:=h.ex;have:=hp.ok j;rw[cP,if_pos (by have:=(List.getElem?_eq_some_iff.1 hj).1;omega),lh,hd,Option.getD_some,<-htr j t hj (by simp)] at this;have ho:af w' (fun _=>False) (a'.tmps.getD t undef) d (fp j):=Fh (A':=fun _=>False) (d:=.o d) this hn
 exact ho.rd (fun _ h=>h.elim) fun b hb=>by
  obtain⟨h1,h2⟩:=hp.lt j b hb;exact⟨h2.resolve_left (fun h=>h),h1⟩
theorem mR(hF:FW F)(pre:List Nat)(l:List aO)(post:List (Nat×Nat)){id:Nat}(env2:List D)(hA:∀b,A b->b<w.heap.size)(hgl:ck w A)(hsz:a.tmps.size=nt)(hl:env.length<=tr.length)(hlt:tr.length<1000)(he:nk a.tmps w A tr env)
  (ht:dI nt tr=true) (hf:ed P nt tr ops false pre l post=true) (hnd:ops.toList.all dz=true) (hv:bA P (fun st=>fin post st=env2) l (bF pre ⟨env,0,[]⟩))
  (hQ:∀a' w',fr ops a a'->oS w A nt tr a.defers env2 a' w'->Q .normal a' w'):(Code.region id ops false).wpIn F n P Q a w :=
 Df hF ht hf hnd (uk hA hgl hsz hl hlt (rz he)) hv fun a' w' _ hK hfr hB=>hQ a' w' hfr (tU hlt (hK▸hB))
theorem De(hF:FW F)(pre:List Nat)(l:List aO)(post:List (Nat×Nat)){id:Nat}(env2:List D)(hA:∀b,A b->b<w.heap.size)(hgl:ck w A)(hsz:a.tmps.size=nt)(hl:env.length<=tr.length)(hlt:tr.length<1000)(he:nk a.tmps w A tr env)
  (ht:dI nt tr=true) (hf:ed P nt tr ops true pre l post=true) (hE:eo ops.toList=true) (hnd:ops.toList.all dz=true) (hv:bA P (fun st=>fin post st=env2) l (bF pre ⟨env,0,[]⟩))
  (hQ:∀a' w',fr ops a a'->oS w A nt tr a.defers env2 a' w'->Q .normal a' w'):(Code.region id ops true).wpIn F n P Q a w :=
 Mo hF ht hf hE hnd (uk hA hgl hsz hl hlt (rz he)) hv fun a' w' _ hK hfr hB=>hQ a' w' hfr (tU hlt (hK▸hB))
end
section
variable{F:Fence}{n:Nat}{P:Program}{Q:Exit->Act->World->Prop}{a:Act}{w:World}
theorem tG{c:Code}(J:Nat->Act->World->Prop){n0:Nat}(h0:J n0 a w)
  (round:∀m a w,J m a w->c.wpIn F n P (Exit.then (fun a' w'=>∃m',m'<m/\J m' a' w') Q) a w):(Code.loop c).wpIn F n P Q a w:=by
 classical
 let μ:Act->World->Nat:=fun a w=>if h:∃m,J m a w/\∀k,J k a w->m<=k then Classical.choose h else 0
 have hμ:∀a w n,J n a w->J (μ a w) a w/\μ a w<=n:=by
  intro a w n hn;have h:=vp (fun n=>J n a w) n hn;have e:μ a w=Classical.choose h:=by simp only[μ];rw[dif_pos h]
  have:=Classical.choose_spec h;rw[e];exact⟨this.1,this.2 n hn⟩
 refine wpIn_loop (fun a w=>∃n,J n a w) μ ⟨n0,h0⟩ fun a w ⟨n,hn⟩=>?_
 refine wpIn_mono (round (μ a w) a w (hμ a w n hn).1) fun e a' w' hq=>?_
 cases e with
 | normal =>
  obtain⟨m,hm,hJ⟩:=hq;exact⟨⟨m,hJ⟩,Nat.lt_of_le_of_lt (hμ a' w' m hJ).2 hm⟩
 | _=>exact hq
end
section
variable{F:Fence}{n:Nat}{P:Program}{ops:Array Oper}{Q:Exit->Act->World->Prop}{a:Act}{w:World}
def bH(k:Nat)(ops:Array Oper):Array Oper:=ops.mapIdx fun i o=>if i<k then o else { o with op:=.move (.const (.bool true)) }
theorem rr(k i:Nat):(bH k ops)[i]?=(ops[i]?).map fun o=>if i<k then o else { o with op:=.move (.const (.bool true)) }:=by simp[bH]
theorem GW(k:Nat)(i:Nat):((bH k ops)[i]?).bind (fun o=>o.dst)=(ops[i]?).bind fun o=>o.dst:=by
 rw[rr];cases ops[i]? with
 | none=>rfl
 | some o=>simp only[Option.map_some,Option.bind_some];split<;>rfl
theorem GV(k:Nat)(i:Nat):((bH k ops)[i]?).map (fun o=>o.after)=(ops[i]?).map fun o=>o.after:=by
 rw[rr];cases ops[i]? with
 | none=>rfl
 | some o=>simp only[Option.map_some];split<;>rfl
theorem GY(k:Nat):(bH k ops).size=ops.size:=by simp[bH]
theorem GX(k i:Nat)(h:i<k):ops[i]?=(bH k ops)[i]?:=by
 rw[rr];cases ops[i]? with
 | none=>rfl
 | some o=>simp[h]
theorem uE{k:Nat}(hl:¬LetsOut Q):∀(R:List Nat)(a:Act),(∀i∈R,k<=i)->wpOps P (bH k ops) Q R a w->∃a',Q .normal a' w/\a'.defers=a.defers/\a'.tmps.size=a.tmps.size/\∀t,(∀i∈R,∀o,ops[i]?=some o->o.dst≠some t)->a'.tmps.getD t undef=a.tmps.getD t undef
 | [],a,_,h=>⟨a,by simpa only[wpOps] using h,rfl,rfl,fun _ _=>rfl⟩
 | i::R,a,hk,h=>by
  have hki:=hk i List.mem_cons_self;have hkR:∀j∈R,k<=j:=fun j hj=>hk j (List.mem_cons_of_mem _ hj)
  rw[wpOps_cons] at h;unfold wpOp at h;rw[rr] at h;cases ho:ops[i]? with
  | none =>
   rw[ho] at h;obtain⟨a',h1,h0,h2,h3⟩:=uE hl R a hkR h;exact⟨a',h1,h0,h2,fun t ht=>h3 t fun j hj=>ht j (List.mem_cons_of_mem _ hj)⟩
  | some o =>
   rw[ho] at h;simp only[Option.map_some,if_neg (show ¬i<k by omega)] at h
   have key:∃v,wpOps P (bH k ops) Q R (a.put o.dst v) w:=by
    split at h
    ·rcases h with h | h
     ·exact⟨.bool true,h⟩
     ·exact absurd h.2 hl
    ·exact⟨undef,h⟩
   obtain⟨v,hv⟩:=key;obtain⟨a',h1,h0,h2,h3⟩:=uE hl R _ hkR hv;have hf:fr ops a (a.put o.dst v):=mf (pH a) (Array.mem_def.1 (Array.mem_of_getElem? ho)) rfl;refine⟨a',h1,h0.trans (by unfold Act.put;cases o.dst<;>rfl),h2.trans hf.1,fun t ht=>?_⟩;rw[h3 t fun j hj=>ht j (List.mem_cons_of_mem _ hj)];have hne:=ht i List.mem_cons_self o ho;unfold Act.put;cases hd:o.dst with
   | none=>rfl
   | some d=>exact getD_set_ne _ (fun e=>hne (by rw[hd,e]))
theorem tF(hF:FW F){i g:Nat}{R:List Nat}{o:Oper}{b:Bool}(ho:ops[i]?=some o)(hg:o.guard=some (g,true))(hy:yielded ops a.tmps g=some b)(h1:b=true->o.wpIn F n P a w (wpOpsIn F n P ops Q R) Q)(h2:b=false->wpOpsIn F n P ops Q R (a.put o.dst undef) w):wpOpsIn F n P ops Q (i::R) a w:=by
 rw[wpOpsIn_cons];unfold wpOpIn;rw[ho];simp only[Region.wanted,hg,hy];cases b with
 | true=>simpa using h1 rfl
 | false=>simpa using⟨fun f _=>hF.fn f,h2 rfl⟩
theorem nj(hF:FW F){o:Oper}{v:Value}{K:Act->World->Prop}(hnd:dz o=true)(hr:(execOp a.eval o).run P w=.ok (.value v) w)(h:K (a.put o.dst v) w):o.wpIn F n P a w K Q:=by
 refine⟨fun f _=>hF.fn f,?_⟩;rw[Oper.semAt_eq _ _ _ (BZ hnd),hr];exact h
theorem oh{i:Nat}{R:List Nat}{o:Oper}(ho:ops[i]?=some o)(hg:o.guard=none)(h1:o.wpIn F n P a w (wpOpsIn F n P ops Q R) Q):wpOpsIn F n P ops Q (i::R) a w:=by
 rw[wpOpsIn_cons];unfold wpOpIn;rw[ho];simp only[Region.wanted,hg];simpa using h1
end
end Go.D3
