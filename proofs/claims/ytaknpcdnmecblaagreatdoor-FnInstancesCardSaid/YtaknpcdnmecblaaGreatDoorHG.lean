/- FROM A LAW's CONTRACT TO WHAT A ROW ASKS. Generic. -/
import Derived.Test.YtaknpcdnmecblaaGreatDoorHF
import Derived.ChangeArms
import Derived.DataReads
import Derived.DataElems
import Derived.OpenShut
import Derived.JoinedCond
import Derived.JoinedOf
import Derived.Carry
import Derived.ChangeSame
namespace Go.D3
open Go
def kJ(tr:List Nat)(as gs:List D):List D :=
 (tr.map fun t=>match as[t]? with | some a=>a.aD (fun i=>i+tr.length) | none=>.dead)++eS (fun i=>i+tr.length) gs
inductive RM where
 | tree
 | refs
 | vn
 | view
def xC(l:List D)(K:D->St->Prop)(st:St):Prop:=cR (ez (ba st.cont 6) l) fun l'=>(jr l').cL=true/\K (jr l') ⟨[],0,[]⟩
def j9(m:RM)(l:List D)(K:D->St->Prop)(st:St):Prop :=
 match m with
 | .tree=>cE l (fun l st=>K (aV (jr l)) st) st
 | .refs=>(jr l).cL=true/\K (jr l) st
 | .vn=>lM (jr l) K st
 | .view=>xC l K st
def pH(n:Nat):Nat->List D->St->Prop
 | _,[],_=>True
 | i,g::r,st=>st.cont (i+n)=g.aD (fun i=>i+n)/\pH n (i+1) r st
def nm(rs:List RS)(m:RM)(rc:D)(n:Nat)(gs I:List D)(env:List D):Prop :=
 env.length=gs.length+n/\I.length=gs.length/\cR (jZ ⟨env,0,[]⟩ rs) fun p=>p.1/\j9 m p.2 (fun c st=>c=rc.aD (fun i=>i+n)/\pH n 0 I st) ⟨env,0,[]⟩
def mc(rs:List RS)(m:RM)(Q:D->List D->Prop)(n:Nat)(gs:List D)(env:List D):Prop :=
 env.length=gs.length+n/\cR (jZ ⟨env,0,[]⟩ rs) fun p=>p.1/\j9 m p.2 (fun c st=>∃rc I,Q rc I/\I.length=gs.length/\c=rc.aD (fun i=>i+n)/\pH n 0 I st) ⟨env,0,[]⟩
theorem XT{m:RM}{l:List D}{K S:D->St->Prop}{st:St}(h:j9 m l K st)(I:∀c st,K c st->S c st):j9 m l S st:=by
 cases m with
 | tree=>exact uY l (fun _ _ h=>I _ _ h) h
 | refs=>exact⟨h.1,I _ _ h.2⟩
 | vn =>
  simp only[j9,lM] at h|-
  split at h
  ·exact⟨h.1,h.2.1,I _ _ h.2.2⟩
  ·exact h.elim
 | view =>
  simp only[j9,xC] at h|-
  cases hm:ez (ba st.cont 6) l with
  | none=>rw[hm] at h;exact h.elim
  | some l'=>rw[hm] at h;exact⟨h.1,I _ _ h.2⟩
theorem Wk{rs:List RS}{m:RM}{rc:D}{n:Nat}{gs I env:List D}(h:nm rs m rc n gs I env):mc rs m (fun r g=>r=rc/\g=I) n gs env:=by
 obtain⟨h1,V,S⟩:=h;refine⟨h1,?_⟩;cases ho:jZ ⟨env,0,[]⟩ rs with
 | none=>rw[ho] at S;exact S
 | some p=>rw[ho] at S;exact⟨S.1,XT S.2 fun c st W=>⟨rc,I,⟨rfl,rfl⟩,V,W⟩⟩
def kT:List D->Bool
 | []=>true
 | a::r=>a.cL&&kT r
theorem H7:∀{l:List D},kT l=true->∀{i:Nat}{a:D},l[i]?=some a->a.cL=true
 | [],_,i,a,h=>by simp at h
 | b::r,h,0,a,I=>by simp only[kT,Bool.and_eq_true] at h;simp at I;subst I;exact h.1
 | b::r,h,i+1,a,I=>by simp only[kT,Bool.and_eq_true] at h;simp at I;exact H7 h.2 I
theorem Gz{n:Nat}{st:St}:∀{gs:List D}{i:Nat},pH n i gs st->∀j,j<gs.length->st.cont (i+j+n)=(nth gs j).aD (fun i=>i+n)
 | [],_,_,j,h=>by simp at h
 | g::r,i,⟨h1,I⟩,0,_=>h1
 | g::r,i,⟨h1,I⟩,j+1,h=>by
  have:=Gz I j (by simpa using h);rw[show i+1+j+n=i+(j+1)+n by omega] at this;exact this
theorem s8(env:List D)(k:Nat):(⟨env,0,[]⟩:St).cont k=if k<1000 then nth env k else .dead:=by
 show(if k<1000 then nth env k else if k<1000+0 then nth [] _ else D.dead)=_;by_cases hk:k<1000
 ·rw[if_pos hk,if_pos hk]
 ·rw[if_neg hk,if_neg hk,if_neg (by omega)]
theorem HV:∀{a b:List D}{k:Nat},k<a.length->nth (a++b) k=nth a k
 | [],_,k,h=>by simp at h
 | x::a,b,0,_=>rfl
 | x::a,b,k+1,h=>HV (a:=a) (by simpa using h)
theorem HW:∀{a b:List D}{k:Nat},nth (a++b) (k+a.length)=nth b k
 | [],_,k=>rfl
 | x::a,b,k=>by
  show nth (x::(a++b)) (k+a.length+1)=_;exact HW (a:=a)
theorem Jo[Mode]{P:Program}{f:FuncId}{fn:Func}{c:C}{tr:List Nat}{as gs:List D}{env:List D}{Q:D->List D->Prop}{rs:List RS}(m:RM)(O:List D->Prop)(hO:∀env,O env->mc rs m Q tr.length gs env)(hf:P.funcs[f]?=some fn)(gT:(fn.name == "runtime.NumGoroutine")=false)
  (ev:mL P fn tr c as.length rs=true) (ha:kT as=true) (hl:as.length<500/\gs.length<400) (ef:env=kJ tr as gs) (hv:bU P c O ⟨fun _ _=>False,O⟩ env) (hm:m=.view->gs=[]):bn P f as gs Q:=by
 subst ef;simp only[mL,Bool.and_eq_true,decide_eq_true_eq] at ev;obtain⟨⟨⟨ad,e1⟩,hI⟩,eT⟩:=ev;cases S:fn.body with
 | none=>rw[S] at ad;cases ad
 | some code =>
 rw[S] at ad;simp only at ad;refine⟨by simp only[fB,hf,S,gT,Option.isSome_some,Bool.not_false,Bool.and_self],?_⟩;intro w A vs gv Fs eg hA hJ eF cI bF e5 cr;have cp:=e1;simp only[ma,Bool.and_eq_true,List.all_eq_true,decide_eq_true_eq] at cp;obtain⟨⟨gF,hC⟩,hy⟩:=cp;generalize hσ:(fun i=>i+tr.length)=σ;have V:∀i,σ i=i+tr.length:=fun i=>by rw[<-hσ]
 have bT:∀i j,σ i=σ j->i=j:=fun i j h=>by rw[V,V] at h;omega
 let tm:Array Value:=vs++Array.replicate (fn.ntmps-vs.size) undef;have hq:tm.size=fn.ntmps:=by simp only[tm,Array.size_append,Array.size_replicate];omega
 have cy:∀i,i<as.length->tm.getD i undef=vs.getD i undef:=by
  intro i hi;simp only[tm,Array.getD_eq_getD_getElem?];rw[Array.getElem?_append_left (by omega)]
 let cx:Ctx:=⟨w,fun b=>∃j,Fs j b,A,fun k=>gv (k-tr.length),fun b S=>⟨hA b S,fun⟨j,hj⟩=>(cr j b hj).2 S⟩,eg,[]⟩;let vl:Nat->Value:=fun k=>match tr[k]? with | some t=>tm.getD t undef | none=>gv (k-tr.length)
 let fp:Nat->Nat->Prop:=fun k b=>tr.length<=k/\k<tr.length+gs.length/\Fs (k-tr.length) b
 generalize ax:(⟨kJ tr as gs,0,[]⟩:St).cont=ct;have b0:(tr.map fun t=>match as[t]? with | some a=>a.aD (fun i=>i+tr.length) | none=>.dead).length=tr.length:=by simp
 have cg:∀k,tr.length<=k->vl k=gv (k-tr.length):=fun k hk=>by
  show(match tr[k]? with | some t=>tm.getD t undef | none=>gv (k-tr.length))=_;rw[List.getElem?_eq_none hk]
 have a8:∀i,i<gs.length->ct (σ i)=(nth gs i).aD σ:=fun i hi=>by
  rw[<-ax,s8,V,if_pos (by omega)];unfold kJ;have:=HW (a:=tr.map fun t=>match as[t]? with | some a=>a.aD (fun i=>i+tr.length) | none=>D.dead) (b:=eS (fun i=>i+tr.length) gs) (k:=i);rw[b0] at this;rw[this,HY,hσ]
 have eb:∀k,tr.length+gs.length<=k->ct k=.dead:=fun k hk=>by
  rw[<-ax,s8];split
  ·exact kR _ _ (by unfold kJ;simp[AX];omega)
  ·rfl
 have ec:∀k,k<tr.length->ct k=.dead\/∃t a,tr[k]?=some t/\as[t]?=some a/\ct k=a.aD σ:=fun k hk=>by
  rw[<-ax,s8,if_pos (by omega)];unfold kJ;rw[HV (by rw[b0];exact hk),tM,List.getElem?_map,List.getElem?_eq_getElem hk];simp only[Option.map_some,Option.getD_some];cases ht:as[tr[k]]? with
  | none=>exact .inl rfl
  | some a=>exact .inr ⟨tr[k],a,rfl,ht,by rw[hσ]⟩
 have bg:∀i,nth gs i≠.dead->ct (σ i)=(nth gs i).aD σ:=fun i hi=>a8 i (Classical.byContradiction fun hh=>hi (kR gs i (by omega)))
 have b5:∀i,vl (σ i)=gv i:=fun i=>by rw[V,cg _ (by omega),Nat.add_sub_cancel]
 have cm:∀b,A b->ak cx fp (fun _=>False) w b:=fun b S=>⟨⟨hA b S,fun _=>S⟩,fun h=>h,fun k hk=>(cr _ b hk.2.2).2 S⟩
 have hD:=wy gF
 have h0:Bm cx fn.ntmps tr (kJ tr as gs) { tmps:=tm,defers:=[] } w:=by
  refine⟨⟨vl,fp,fun _=>False,?_,fun k t hk _=>by simp only[vl,hk],fun i t hi _=>by simp at hi,fun k h1 _=>cg k h1⟩,rfl,fun j hj=>by simp at hj,hq,rfl⟩;rw[ax];refine⟨fun k=>?_,fun i j cd b hi hj=>e5 _ _ b (by have:=hi.1;have:=hj.1;omega) hi.2.2 hj.2.2,fun _ _ _ h=>h,fun k hk b S=>?_,fun k b S=>⟨(cr _ b S.2.2).1,.inl ⟨_,S.2.2⟩⟩,fun _ h=>h.elim,Nat.le_refl _,fun _ _ _=>rfl,rfl,rfl,.refl _⟩
  ·by_cases hk:k<tr.length
   ·rcases ec k hk with hc | ⟨t,a,h1,h2,hc⟩
    ·rw[hc];exact Pl.dead
    ·rw[hc]
     have gn:=(List.getElem?_eq_some_iff.1 h2).1;have e6:=H7 ha h2;rw[qc (VS e6)]
     have hv:vl k=vs.getD t undef:=by
      show(match tr[k]? with | some t=>tm.getD t undef | none=>_)=_;rw[h1];exact cy t gn
     rw[hv];have:=(eF t a h2).aD (Q:=fun _=>True) (σ:=σ) (R':=ai w ct vl) (bw (fun _=>trivial) _) fun v d _ hr=>hr.aD bg fun i _=>b5 i
     exact this.mono (Q:=fun _=>True) cm (fun _ _=>rfl) (bw (fun _=>trivial) _) fun _ _ _ h=>h
   ·by_cases ej:k<tr.length+gs.length
    ·obtain⟨i,rfl⟩:∃i,k=σ i:=⟨k-tr.length,by rw[V];omega⟩
     rw[a8 i (by rw[V] at ej;omega),b5];have:=(cI i).aD (Q:=fun _=>True) (σ:=σ) (R':=ai w ct vl) (bw (fun _=>trivial) _) fun v d _ hr=>hr.aD bg fun i _=>b5 i
     exact this.mono (Q:=fun _=>True) cm (fun _ _=>rfl) (fun _ _=>rfl) (fun b S=>⟨by omega,ej,by rw[V,Nat.add_sub_cancel];exact S⟩) (bw (fun _=>trivial) _) fun _ _ _ h=>h
    ·rw[eb k (by omega)];exact Pl.dead
  ·obtain⟨h1,h2,h3⟩:=S
   have e:k=σ (k-tr.length):=by rw[V];omega
   rw[e,a8 _ (by omega),rE] at hk;exact bF _ hk b h3
 have fin:∀a' w' env,O env->Bm cx fn.ntmps tr env a' w' ->
   a'.defers=[]/\∃v,(results fn a'.tmps).run P w'=.ok v w'/\∃(rc:D)(I:List D)(u:Value)(F:Nat->Prop)(cc:Nat->Value)(W:Nat->Nat->Prop),Q rc I/\Ending.returned v=.returned u/\w.heap.size<=w'.heap.size /\
    aN w' (fun b=>A b\/(w.heap.size<=b/\b<w'.heap.size/\¬F b/\∀j,¬W j b)) (ai w' (nth I) cc) u F rc/\(rc.isObj=false->∀b,¬F b) /\
    (∀k,aN w' (fun b=>A b\/(w.heap.size<=b/\b<w'.heap.size/\¬F b/\∀j,¬W j b)) (ai w' (nth I) cc) (cc k) (W k) (nth I k))/\(∀k,(nth I k).isObj=false->∀b,¬W k b) /\
    (∀k,nth gs k≠.dead->cc k=gv k) /\
    (∀b,F b->b<w'.heap.size/\(w.heap.size<=b\/∃j,Fs j b)/\∀j,¬W j b)/\(∀j b,W j b->b<w'.heap.size/\(w.heap.size<=b\/∃j,Fs j b))/\(∀i j b,i≠j->W i b->¬W j b) /\
    (∀b,b<w.heap.size->(∀j,¬Fs j b)->w'.heap[b]?=w.heap[b]?)/\w'.os=w.os/\w'.tape=w.tape/\c6 w w':=by
  intro a' w' env ho hB;obtain⟨hE,ho⟩:=hO env ho;cases dp:jZ ⟨env,0,[]⟩ rs with
  | none=>rw[dp] at ho;exact ho.elim
  | some p =>
  rw[dp] at ho;obtain⟨hs,ab⟩:=ho;obtain⟨b9,a7,G',hp,e2,_,fj⟩:=hB.ex;obtain⟨us,e0,hlen,ao⟩:=Av (P:=P) hp (fun j t hj=>e2 j t hj (by simp)) fn.results.toList rs eT dp hs;have dm:=Jn e0
  have a6:∀k,tr.length+gs.length<=k->(⟨env,0,[]⟩:St).cont k=.dead:=fun k hk=>by
   rw[s8];split
   ·exact kR _ _ (by omega)
   ·rfl
  have key:∃(c:D)(st2:St)(Y:Nat->Nat->Prop)(G2 F:Nat->Prop),(∃rc I,Q rc I/\I.length=gs.length/\c=rc.aD (fun i=>i+tr.length)/\pH tr.length 0 I st2)/\Hp cx st2.cont b9 Y G2 w'/\aN w' (ak cx Y G2 w') (ai w' st2.cont b9) (qt us) F c /\
    (c.isObj=false->∀b,¬F b)/\(∀b,F b->G2 b)/\∀k,tr.length+gs.length<=k->st2.cont k=.dead:=by
   have cj:Pl w' (ak cx a7 G' w') (ai w' (⟨env,0,[]⟩:St).cont b9) (qt us) (jr p.2):=by
    match us,p.2,hlen,ao with
    | [],[],_,_=>exact .av rfl (fun j x hx=>by simp at hx)
    | [v],[x],_,ao=>exact ao 0 x rfl
    | a::b::r,x::y::l,hl,ao=>exact .av (by simpa using hl) ao
   cases m with
   | tree =>
    obtain⟨l',st',Y,G2,Ls,hK,b2,gg,ag,cv,_⟩:=ko (A:=ak cx a7 G' w') _ ab hp hB.wf (fun _ h=>h) ao;let F:Nat->Prop:=fun b=>∃j,Ls j b
    have dk:aq w' (ak cx Y G2 w') (qt us) (jr l') F:=by
     have b3:us.length=l'.length:=by rw[hlen,gg]
     match us,l',b3,ag,cv with
     | [],[],_,_,_=>exact aq.av (fun _ _=>False) rfl (fun j x hx=>by simp at hx) (fun _ _ h=>h.elim) (fun _ _ _ _ h=>h.elim)
     | [v],[x],_,ag,_ =>
      have:=(ag 0 x rfl).1;exact this.mono (fun _ h=>h) (fun _ _=>rfl) (fun _ _=>rfl) fun b S=>⟨0,S⟩
     | a::b::r,x::y::l,b3,ag,cv =>
      refine aq.av (fun j b=>Ls j b) (by simpa using b3) (fun j z hz=>((ag j z hz).1).mono (fun _ h=>h) (fun _ _=>rfl) (fun _ _=>rfl) fun _ h=>h) (fun j b S=>⟨j,S⟩) (fun i j b cd hi hj=>cv i j b cd hi hj)
    obtain⟨c1,c2⟩:=nV (R:=ai w' st'.cont b9) dk;by_cases hob:(aV (jr l')).isObj=true
    ·exact⟨_,st',Y,G2,F,hK,b2.hp,c1,fun hh=>(by rw[hob] at hh;cases hh),fun b ⟨j,S⟩=>(b2.hF b ⟨j,S⟩).1,fun k hk=>b2.dd k (a6 k hk)⟩
    ·exact⟨_,st',Y,G2,fun _=>False,hK,b2.hp,c2 (by simpa using hob),fun _ _ h=>h,fun _ h=>h.elim,fun k hk=>b2.dd k (a6 k hk)⟩
   | refs =>
    exact⟨_,_,a7,G',fun _=>False,ab.2,hp,(qc ab.1).2 cj,fun _ _ h=>h,fun _ h=>h.elim,a6⟩
   | vn =>
    simp only[j9] at ab;obtain⟨c,st2,Y,G2,F,h1,h2,h3,h4,h5,h6,_,_⟩:=E1 hp hB.wf cj ab;exact⟨c,st2,Y,G2,F,h1,h2,h3,h4,h5,fun k hk=>h6 k (a6 k hk)⟩
   | view =>
    simp only[j9,xC] at ab;cases hmo:ez (ba (⟨env,0,[]⟩:St).cont 6) p.2 with
    | none=>rw[hmo] at ab;exact ab.elim
    | some l' =>
    rw[hmo] at ab;obtain⟨eB,hK⟩:=ab;have e4:∀b,¬cx.F0 b:=fun b ⟨j,hj⟩=>bF j (by rw[hm rfl];cases j<;>rfl) b hj
    have e3:∀k b,a7 k b->ak cx (fun _ _=>False) (fun _=>False) w' b:=fun k b S =>
     ⟨⟨(hp.lt k b S).1,fun h=>(hp.lt k b S).2.elim (fun h2=>absurd h2 (e4 b)) fun h2=>absurd h (Nat.not_lt.2 h2)⟩,fun h=>h,fun _ h=>h⟩
    obtain⟨fs,ft⟩:=iv hmo
    have b1:∀j x,l'[j]?=some x->Rd w' (ak cx (fun _ _=>False) (fun _=>False) w') (us.toArray.getD j undef) x:=fun j x hx=>by
     obtain⟨d,hd,hg⟩:=ft j x hx;exact nY (fun b S=>⟨S.1,fun h=>h,fun _ h=>h⟩) (fun _ _ _=>rfl) (fun j _ _=>⟨a7 j,e3 j,hp.ok j⟩) 6 (ao j d hd) hg
    have eP:Rd w' (ak cx (fun _ _=>False) (fun _=>False) w') (qt us) (jr l'):=by
     have b3:us.length=l'.length:=by rw[hlen,fs]
     match us,l',b3,b1 with
     | [],[],_,_=>exact .av rfl (fun j x hx=>by simp at hx)
     | [v],[x],_,b1=>exact b1 0 x rfl
     | a::b::r,x::y::l,hl,b1=>exact .av (by simpa using hl) b1
    have ea:∀k,(⟨[],0,[]⟩:St).cont k=.dead:=fun k=>by rw[s8];split<;>rfl
    refine⟨_,_,fun _ _=>False,fun _=>False,fun _=>False,hK,?_,(qc eB).2 (.rd eP),fun _ _ h=>h,fun _ h=>h.elim,fun k _=>ea k⟩;exact⟨fun k=>by rw[ea];exact Pl.dead,fun _ _ _ _ h=>h.elim,fun _ _ h=>h.elim,fun _ _ _ h=>h,fun _ _ h=>h.elim,fun _ h=>h.elim,hp.size,hp.same,hp.os,hp.tape,hp.output⟩
  obtain⟨c,st2,Y,G2,F,⟨rc,I,hQ,eg,hc,fl⟩,Z,dn,e7,cq,e9⟩:=key;rw[hσ] at hc;subst hc
  have a1:∀k,st2.cont (σ k)=(nth I k).aD σ:=fun k=>by
   by_cases hk:k<I.length
   ·have:=Gz fl k hk
    rw[Nat.zero_add,<-V k,hσ] at this;exact this
   ·rw[e9 _ (by rw[V];omega),kR I k (by omega)];rfl
  have b4:∀k,nth I k≠.dead->b9 (σ k)=gv k:=fun k hk=>by
   have et:k<I.length:=Classical.byContradiction fun hh=>hk (kR I k (by omega))
   rw[fj _ (by rw[V];omega) (by rw[V];omega)];show gv (σ k-tr.length)=_;rw[V,Nat.add_sub_cancel]
  let W:Nat->Nat->Prop:=fun k b=>k<I.length/\Y (σ k) b
  have aK:∀b,ak cx Y G2 w' b->A b\/(w.heap.size<=b/\b<w'.heap.size/\¬F b/\∀j,¬W j b):=by
   rintro b ⟨⟨q1,q2⟩,q3,q4⟩;by_cases hbo:b<w.heap.size
   ·exact .inl (q2 hbo)
   ·exact .inr ⟨by omega,q1,fun hF=>q3 (cq b hF),fun j hj=>q4 _ hj.2⟩
  refine⟨hB.defers,_,dm,rc,I,_,F,gv,W,hQ,rfl,Z.size,?_,fun hh=>e7 (by rw[rE];exact hh),fun k=>?_,fun k hk b S=>?_,fun _ _=>rfl,fun b S=>?_,fun j b S=>?_,fun i j b cd hi hj=>?_,fun b S hn=>Z.same b S fun⟨j,hj⟩=>hn j hj,Z.os,Z.tape,Z.output⟩
  ·exact(dn.qL bT a1 b4).mono (Q:=fun _=>True) aK (fun _ _=>rfl) (fun _ _=>rfl) (fun _ h=>h) (bw (fun _=>trivial) _) fun _ _ _ h=>h
  ·by_cases hkd:nth I k=.dead
   ·rw[hkd];exact Pl.dead
   ·have et:k<I.length:=Classical.byContradiction fun hh=>hkd (kR I k (by omega))
    have:=Z.ok (σ k);rw[a1 k,b4 k hkd] at this;exact(this.qL bT a1 b4).mono (Q:=fun _=>True) aK (fun _ _=>rfl) (fun _ _=>rfl) (fun b S=>⟨et,S⟩) (bw (fun _=>trivial) _) fun _ _ _ h=>h
  ·exact Z.emp _ (by rw[a1 k,rE];exact hk) b S.2
  ·obtain⟨q1,q2⟩:=Z.cY b (cq b S)
   exact⟨q1,q2.symm,fun j hj=>Z.cK _ b hj.2 (cq b S)⟩
  ·obtain⟨q1,q2⟩:=Z.lt _ b S.2
   exact⟨q1,q2.symm⟩
  ·exact Z.cz _ _ (fun he=>cd (bT _ _ he)) b hi.2 hj.2
 refine calls_of_wp hf S ?_;exact ja e1 c code ad hv h0 (fun a w env h1 h2=>fin a w env h1 h2) (fun _ _ _ _ h _=>h.elim) (fun a w env h1 h2=>fin a w env h1 h2)
theorem XZ[Mode]{P:Program}{f:FuncId}{fn:Func}{c:C}{tr:List Nat}{as gs I:List D}{env:List D}{rc:D}{rs:List RS}(m:RM)(Z:P.funcs[f]?=some fn)(V:(fn.name == "runtime.NumGoroutine")=false)
  (W:mL P fn tr c as.length rs=true) (Y:kT as=true) (hl:as.length<500/\gs.length<400) (S:env=kJ tr as gs) (hm:m=.view->gs=[]) (hv:bU P c (nm rs m rc tr.length gs I) ⟨fun _ _=>False,nm rs m rc tr.length gs I⟩ env):lE P f as gs rc I :=
 Jo m (nm rs m rc tr.length gs I) (fun _ h=>Wk h) Z V W Y hl S hv hm
theorem A1[Mode]{P:Program}{f:FuncId}{fn:Func}{c:C}{tr:List Nat}{as gs:List D}{env:List D}{Q:D->List D->Prop}{rs:List RS}(m:RM)(Y:P.funcs[f]?=some fn)(S:(fn.name == "runtime.NumGoroutine")=false)
  (V:mL P fn tr c as.length rs=true) (W:kT as=true) (Z:as.length<500/\gs.length<400) (I:env=kJ tr as gs) (hm:m=.view->gs=[]) (hv:bU P c (mc rs m Q tr.length gs) ⟨fun _ _=>False,mc rs m Q tr.length gs⟩ env):bn P f as gs Q :=
 Jo m (mc rs m Q tr.length gs) (fun _ h=>h) Y S V W Z I hv hm
end Go.D3
namespace Go.D3
open Go
section
variable{P:Program}{K:St->Prop}{st st':St}{env env':List D}
@[congr] theorem ach{rs:List RS}{res:D}{g:Nat}{as:List Arg}(h:env=env'):out rs res g as env=out rs res g as env':=by rw[h]
end
theorem Qt{g:Nat}{st:St}:jQ g [] st=True:=rfl
theorem Qv{g:Nat}{x:D}{r:List Arg}{st:St}:jQ g (.v x::r) st=jQ (g+1) r st:=rfl
theorem Qu{g:Nat}{x:D}{r:List Arg}{st:St}:jQ g (.own x::r) st=jQ (g+1) r st:=rfl
theorem Qs{g:Nat}{x y:D}{r:List Arg}{st:St}:jQ g (.io x y::r) st=((st.cont g=y/\y.refs dW)/\jQ (g+1) r st):=rfl
theorem O3{g:Nat}{x:D}:Arg.c0 g (.v x)=x:=rfl
theorem O2{g:Nat}{x:D}:Arg.c0 g (.own x)=.o x:=rfl
theorem O1{g:Nat}{x y:D}:Arg.c0 g (.io x y)=cB g x:=rfl
theorem Qh{x:D}:Arg.g0 (.v x)=.dead:=rfl
theorem Qg{x:D}:Arg.g0 (.own x)=.dead:=rfl
theorem Qf{x y:D}:Arg.g0 (.io x y)=x:=rfl
theorem QR{x:D}:Arg.tu (.v x)=false:=rfl
theorem QP{x:D}:Arg.tu (.own x)=false:=rfl
theorem QO{x y:D}:Arg.tu (.io x y)=true:=rfl
attribute [go_sem] eV.eq_1 out.eq_1 jZ.eq_1 jZ.eq_2 qf.eq_1 qf.eq_2 qf.eq_3 jr.eq_1 Qt Qv Qu Qs O3 O2 O1 Qh Qg Qf QR QP QO
 List.map_cons List.map_nil List.getElem?_cons_zero List.getElem?_cons_succ List.getElem?_nil List.any_cons List.any_nil Bool.or_false Bool.false_or Bool.or_true Bool.true_or oS.eq_1 oS.eq_2
theorem WC{c a:Bool}:oB c a false=(c&&a):=by cases c<;>cases a<;>rfl
theorem WD{c b:Bool}:oB c true b=(c || b):=by cases c<;>cases b<;>rfl
theorem aa2:Int.toNat 0=0:=rfl
theorem aa1:Int.toNat 1=1:=rfl
attribute [go_sem] WC WD ge_iff_le gt_iff_lt Int.toNat_natCast Int.ofNat_lt Int.ofNat_le Int.natCast_nonneg D.bool.injEq aa2 aa1
def Gg[K:KH](l ys:List D)(res:D)(st:St):Prop:=gm l ys (fun st=>K.k (st.push (aV res))) st
@[congr] theorem ab2{l ys:List D}{res:D}{K:KH}{st st':St}(h:st=st'):Gg l ys res st=Gg l ys res st':=by rw[h]
mutual
def D.ek:D->Prop
 | .int k n=>k.has n
 | .slice _ l=>l.length<=maxLen/\iH l
 | .agg l=>iH l
 | .av l=>iH l
 | .ptr l=>iH l
 | .str s=>s.length<=maxLen
 | _=>True
def iH:List D->Prop
 | []=>True
 | x::r=>x.ek/\iH r
end
theorem sF:∀{l:List D},iH l↔∀x∈l,x.ek
 | []=>by simp[iH]
 | x::r=>by simp only[iH,sF (l:=r),List.mem_cons,forall_eq_or_imp]
theorem abi{d:D}(h:∀c∈d.cells,c.ek):d.ek:=by
 cases d
 case agg l=>exact sF.2 h
 all_goals exact h _ (by simp[D.cells])
theorem Rd.ek{w:World}{A:Nat->Prop}{v:Value}{d:D}(h:Rd w A v d):d.ek:=by
 induction h with
 | int h=>exact h
 | str h=>exact h
 | nil=>exact⟨Nat.zero_le _,trivial⟩
 | empty h=>exact⟨Nat.zero_le _,trivial⟩
 | @slice z L b off cap sz hA Z hm hz hzz hsz vs hcells W S =>
  refine⟨Nat.le_trans Z hm,sF.2 fun x I=>abi fun c V=>?_⟩;obtain⟨i,hi,rfl⟩:=List.getElem_of_mem I;obtain⟨o,ho,rfl⟩:=List.getElem_of_mem V;have hl:=hsz L[i] I;have:=Fg (z:=z) (L:=L) (i:=i) (off:=o) hzz hsz hi (by omega);have Y:=S _ _ this;simp only[D.dV,List.getD_eq_getElem?_getD,List.getElem?_eq_getElem hi,Option.getD_some,List.getElem?_eq_getElem ho] at Y;exact Y
 | agg hs W S | av hs W S =>
  exact sF.2 fun x I=>by obtain⟨i,hi,rfl⟩:=List.getElem_of_mem I;exact S i _ (List.getElem?_eq_getElem hi)
 | ptr hA vs Z W S=>exact sF.2 fun x I=>by obtain⟨i,hi,rfl⟩:=List.getElem_of_mem I;exact S i _ (List.getElem?_eq_getElem hi)
 | _=>trivial
def eL:List Arg->Prop
 | []=>True
 | .v x::r=>x.ek/\eL r
 | .own x::r=>x.ek/\eL r
 | .io (.o x) _::r=>x.ek/\eL r
 | .io _ _::r=>eL r
theorem EK:∀{as:List Arg},(∀(j:Nat)(x y:D),as[j]?=some (.v x)\/as[j]?=some (.own x)\/as[j]?=some (.io (.o x) y)->x.ek)->eL as
 | [],_=>trivial
 | a::r,h=>by
  have I:eL r:=EK fun j x y S=>h (j+1) x y (by simpa using S)
  cases a with
  | v x=>exact⟨h 0 x .dead (.inl rfl),I⟩
  | own x=>exact⟨h 0 x .dead (.inr (.inl rfl)),I⟩
  | io x y=>cases x<;>first | exact I | exact⟨h 0 _ y (.inr (.inr rfl)),I⟩
theorem iA[Mode]{P:Program}{f:FuncId}{as:List Arg}{res:D}(h:eL as->aA P f as res):aA P f as res:=by
 intro w A vs Fs V h1 W S Y Z;refine h (EK fun j x y I=>?_) w A vs Fs V h1 W S Y Z;rcases I with I | I | I
 ·exact(S j _ I).1.ek
 ·exact((show aq _ _ _ _ _ from S j _ I).rd (A':=fun _=>True) (fun _ _=>trivial) fun _ _=>trivial).ek
 ·exact((show aq _ _ _ _ _ from S j _ I).rd (A':=fun _=>True) (fun _ _=>trivial) fun _ _=>trivial).ek
theorem iJ{α:Type}{f:α->D}{d:α}{l:List α}:(ae f d l).ek=(l.length<=maxLen/\∀x∈l,(f x).ek):=by
 simp only[ae,D.ek,List.length_map,sF,List.mem_map];exact propext ⟨fun h=>⟨h.1,fun x I=>h.2 _ ⟨x,I,rfl⟩⟩,fun h=>⟨h.1,by rintro _ ⟨x,I,rfl⟩;exact h.2 x I⟩⟩
theorem aw{i n:Nat}(h:i<n)(I:n<=maxLen):IntKind.i64.wrap ((i:Int)+1)=((i+1:Nat):Int):=by
 have:=lA (n9 (n:=i+1) (by omega));simpa using this
theorem wrap_small{n:Int}(h1 : -4611686018427387904<=n)(I:n<=4611686018427387904):IntKind.i64.wrap n=n :=
 lA ⟨by simp[IntKind.min,IntKind.signed,IntKind.bits];omega,by simp[IntKind.max,IntKind.signed,IntKind.bits];omega⟩
section
variable{α:Type}{l:List α}{p:α->Bool}{d:α}{i:Nat}
theorem aM(h:i<l.length)(d:α):l.getD i d=l[i]:=by rw[List.getD_eq_getElem?_getD,List.getElem?_eq_getElem h];rfl
theorem b7(h:i<l.length)(d:α):l.take (i+1)=l.take i++[l.getD i d]:=by
 rw[List.take_succ_eq_append_getElem h,aM h]
theorem EB(h:i<l.length)(I:(l.take i).all p=true)(hp:p (l.getD i d)=true):(l.take (i+1)).all p=true:=by
 rw[b7 h d,List.all_append,I];simp;simpa using hp
theorem EC(h:i<l.length)(hp:p (l.getD i d)=false):l.all p=false:=by
 rw[List.all_eq_false];exact⟨l[i],List.getElem_mem h,by rw[aM h] at hp;simp[hp]⟩
theorem EA(h:l.length<=i)(I:(l.take i).all p=true):l.all p=true:=by
 rwa [List.take_of_length_le h] at I
end
def sb(left:Int)(n:Nat):Int:=if(n:Int)<=left then left-n else -1
def da{α:Type}(cost:α->Nat)(l:List α):Nat:=l.length+(l.map cost).sum
theorem MS{α:Type}{cost:α->Nat}{l:List α}{i:Nat}(h:i<l.length)(d:α):((l.take (i+1)).map cost).sum=((l.take i).map cost).sum+cost (l.getD i d):=by
 rw[b7 h d];simp
theorem aaM{α:Type}{cost:α->Nat}{l:List α}(i:Nat):((l.take i).map cost).sum<=(l.map cost).sum:=by
 conv=>rhs;rw[<-List.take_append_drop i l]
 rw[List.map_append,List.sum_append];omega
theorem p9{α:Type}{f:α->D}{d:α}(h:∀x,(f x).bA=true)(l:List α):(ae f d l).bA=true:=R4 h
theorem bJ(l:List Int):(ints l).bA=true:=p9 (fun _=>rfl) l
theorem tN(l:List (List UInt8)):(jv l).bA=true:=p9 (fun _=>rfl) l
theorem ow(l:List (List Int)):(aC l).bA=true:=p9 bJ l
def lO{α:Type}(l:List α)(z:α)(i:Nat):List α:=l.take i++List.replicate (l.length-i) z
section
variable{α:Type}{l:List α}{z d:α}{i:Nat}{cost:α->Nat}
theorem PC:lO l z 0=List.replicate l.length z:=by simp[lO]
theorem FA(h:i<=l.length):(lO l z i).length=l.length:=by simp[lO];omega
theorem PB(h:i<l.length):(lO l z i).set i (l.getD i d)=lO l z (i+1):=by
 have I:List.replicate (l.length-i) z=z::List.replicate (l.length-(i+1)) z:=by
  rw[show l.length-i=(l.length-(i+1))+1 by omega,List.replicate_succ]
 unfold lO;rw[List.set_append_right _ _ (by simp;omega),I,b7 h d];simp[Nat.min_eq_left (Nat.le_of_lt h)]
theorem PA(h:¬i<l.length):lO l z i=l:=by
 unfold lO;rw[List.take_of_length_le (by omega),show l.length-i=0 by omega];simp
theorem tc(h:i<l.length)(d:α):cost (l.getD i d)<=da cost l:=by
 have h1:=MS (cost:=cost) h d;have I:=aaM (cost:=cost) (l:=l) (i+1);unfold da;omega
end
theorem ZX{α:Type}{f:α->D}{d:α}{l:List α}{o:Nat}{y:D}:dM (ae f d l) o y=y:=rfl
theorem XU{a b:D}{r:List D}:jr (a::b::r)=.av (a::b::r):=rfl
attribute [go_sem] XU ZX Prod.mk.injEq and_false false_and Bool.not_not Bool.not_or Bool.or_self
theorem Mr{z y:D}{M:List D}{i j:Nat}{r:List D}:df (.o (.slice z M)) [(i,0)] j (y::r)=df (.o (.slice z (M.set i (dM (M.getD i z) j y)))) [(i,0)] (j+1) r:=by
 simp only[df,bump,bD,Nat.zero_add,Bool.false_eq_true,if_false,D.setAt,D.fw,D.dw]
theorem Ms{z:D}{i:Nat}:∀(r:List D)(j:Nat){M:List D},M.length<=i->df (.o (.slice z M)) [(i,0)] j r=.o (.slice z M)
 | [],j,M,h=>rfl
 | y::r,j,M,h=>by
  rw[Mr,List.set_eq_of_length_le h,Ms r (j+1) h]
theorem Mq{z:D}{i:Nat}:∀(r:List D)(j:Nat){M:List D}{c:List D},i<M.length->M.getD i z=.agg c->df (.o (.slice z M)) [(i,0)] j r=.o (.slice z (M.set i (.agg (setCells c j r))))
 | [],j,M,c,h,hc=>by
  have:M.set i (.agg c)=M:=by
   rw[<-hc,List.getD_eq_getElem?_getD,List.getElem?_eq_getElem h];simp
  simp only[df,setCells,this]
 | y::r,j,M,c,h,hc=>by
  rw[Mr,hc]
  have h1:(M.set i (dM (.agg c) j y)).getD i z=.agg (c.set j y):=by
   rw[List.getD_eq_getElem?_getD,List.getElem?_set_self h];rfl
  rw[Mq r (j+1) (by simpa using h) h1,List.set_set];rfl
theorem ZF{c cs:List D}(h:cs.length=c.length):setCells c 0 cs=cs:=by
 apply List.ext_getElem?;intro j;rw[Bx cs c 0 j (by omega)];by_cases hj:j<cs.length
 ·rw[if_pos (by omega)];rfl
 ·rw[if_neg (by omega),List.getElem?_eq_none (by omega),List.getElem?_eq_none (by omega)]
theorem mf{α:Type}{f:α->D}{d:α}{l:List α}{i:Nat}{x:α}{cs:List D}{n:Nat}(I:∀y,∃c,f y=.agg c/\c.length=n)(S:f x=.agg cs):df (.o (ae f d l)) [(i,0)] 0 cs=.o (ae f d (l.set i x)):=by
 obtain⟨c',h1,V⟩:=I x;rw[S] at h1;injection h1 with h1
 by_cases h:i<l.length
 ·obtain⟨c,W,Y⟩:=I (l.getD i d)
  have Z:(l.map f).getD i (f d)=.agg c:=by rw[getD_map',W]
  have h6:cs.length=c.length:=by rw[h1,V,Y]
  unfold ae;rw[Mq cs 0 (by simpa using h) Z,ZF h6,List.map_set,S]
 ·unfold ae
  rw[Ms cs 0 (by simp;omega),List.set_eq_of_length_le (by omega)]
attribute [go_sem ↓] abe abd abc We Wg Wd bU.eq_1 bU.eq_2 bU.eq_3 bU.eq_4 bU.eq_5 bU.eq_6 bU.eq_7 bU.eq_8 bU.eq_9 bU.eq_10 bU.eq_11 sE.eq_1 sE.eq_2 cw.eq_1 cw.eq_2 cw.eq_3 br.eq_1 br.eq_2 br.eq_3 br.eq_4 br.eq_5 br.eq_6 br.eq_7 br.eq_8 br.eq_9 br.eq_10 br.eq_11 br.eq_12 br.eq_13 br.eq_14 br.eq_15 br.eq_16 br.eq_17 br.eq_18 br.eq_19 mo.eq_1 mo.eq_2 qa.eq_1 iz.eq_1 iz.eq_2 fo.eq_1 fo.eq_2 mb.eq_1 mb.eq_2 nN.eq_1 qU.eq_1 aF.eq_1 aF.eq_2 aF.eq_3 aF.eq_4 aF.eq_5 aF.eq_6 aF.eq_7 aF.eq_8 aF.eq_9 aF.eq_10 aF.eq_11 aF.eq_12 aF.eq_13 aF.eq_14 aF.eq_15 cE.eq_1 cE.eq_2 eI.eq_1 eI.eq_2 iO.eq_1 iO.eq_2 iO.eq_3 lq.eq_1 lq.eq_2 nB.eq_1 nB.eq_2 qJ.eq_1 pk.eq_1 kG.eq_1 kG.eq_2 cR.eq_1 cR.eq_2
attribute [go_sem_proc] Nat.reduceLT Nat.reduceAdd Nat.reduceSub Nat.reduceEqDiff Nat.reduceBEq Nat.reduceLeDiff
attribute [go_sem_proc ↓] reduceIte
instance dMode:Mode:=⟨false⟩
theorem Il{w w':World}(h:w'.output=w.output):c6 w w':=⟨h,fun h=>by cases h⟩
end Go.D3
namespace Go.D3
open Go
section
variable{P:Program}{K:St->Prop}{st st':St}{env env':List D}
@[congr] theorem acg{rs:List RS}{m:RM}{rc:D}{n:Nat}{gs I:List D}(h:env=env'):nm rs m rc n gs I env=nm rs m rc n gs I env':=by rw[h]
@[congr] theorem acf{rs:List RS}{m:RM}{Q:D->List D->Prop}{n:Nat}{gs:List D}(h:env=env'):mc rs m Q n gs env=mc rs m Q n gs env':=by rw[h]
end
section
variable{n a b c d e f:Nat}{r:List Nat}
theorem ZY:sg n (a::r) 0=a:=rfl
theorem ZZ:sg n (a::b::r) 1=b:=rfl
theorem Z0:sg n (a::b::c::r) 2=c:=rfl
theorem Z1:sg n (a::b::c::d::r) 3=d:=rfl
theorem Z2:sg n (a::b::c::d::e::r) 4=e:=rfl
theorem Z3:sg n (a::b::c::d::e::f::r) 5=f:=rfl
end
attribute [go_sem] kJ.eq_1 nm.eq_1 mc.eq_1 j9.eq_1 j9.eq_2 j9.eq_3 j9.eq_4 xC.eq_1 pH.eq_1 pH.eq_2 kT.eq_1 kT.eq_2 ZY ZZ Z0 Z1 Z2 Z3 List.isEmpty_nil List.isEmpty_cons
attribute [go_sem ↓] jK.eq_1 jK.eq_2 jK.eq_3 lP.eq_1 lM.eq_1 ga.eq_1 ga.eq_2 ga.eq_3
theorem bj[Mode]{P:Program}{f:FuncId}{ds:List D}{K:St->Prop}{st:St}{xs gs:List D}{Q:D->List D->Prop}(S:List Nat)(V:Bool)(Y:bn P f xs gs Q)
  (W:∀rc I,Q rc I->kQ gs I/\(V=true->rc.iF=true/\lv I=true)/\K ((gB (sg st.n S) (st.kill (qG S gs I)) S I).push (rc.aD (sg st.n S))))
  (hn:S.Nodup/\S.all (fun j=>decide (j<1000+st.n))=true:=by exact⟨by decide,rfl⟩) (hl:kN st (sg st.n S) S gs:=by repeat(first | exact trivial | refine⟨rfl,?_⟩))
  (Z:kq st (sg st.n S) S V ds xs:=by repeat(first | exact trivial | refine⟨.inl rfl,?_⟩ | refine⟨.inr ⟨rfl,rfl⟩,?_⟩)):@mM _ P f ds true false ⟨K⟩ st:=PJ S V Y hn hl Z W
theorem Gp[Mode]{P:Program}{f:FuncId}{ds:List D}{K:St->Prop}{st:St}{xs gs I:List D}{rc:D}(S:List Nat)(V:Bool)(Y:lE P f xs gs rc I)
  (W:K ((gB (sg st.n S) (st.kill (qG S gs I)) S I).push (rc.aD (sg st.n S)))) (hn:S.Nodup/\S.all (fun j=>decide (j<1000+st.n))=true:=by exact⟨by decide,rfl⟩)
  (hl:kN st (sg st.n S) S gs:=by repeat(first | exact trivial | refine⟨rfl,?_⟩)) (Z:kq st (sg st.n S) S V ds xs:=by repeat(first | exact trivial | refine⟨.inl rfl,?_⟩ | refine⟨.inr ⟨rfl,rfl⟩,?_⟩))
  (hw:kQ gs I:=by repeat(first | exact trivial | refine⟨(fun h=>by cases h),?_⟩)) (ht:V=true->rc.iF=true/\lv I=true:=by exact fun h=>by cases h):@mM _ P f ds true false ⟨K⟩ st:=Qi S V Y hn hl Z hw ht W
theorem Ir{w w':World}{A:Nat->Prop}{v:Value}{d:D}{F:Nat->Prop}{S:Nat->Prop}(h:aq w' (fun b=>A b\/(w.heap.size<=b/\b<w'.heap.size/\¬F b/\S b)) v d F)(hF:∀b,F b->b<w'.heap.size/\w.heap.size<=b) :
  Rd w' (fun b=>A b\/(w.heap.size<=b/\b<w'.heap.size/\¬False/\∀_:Nat,¬False)) v d :=
 h.rd (fun _ I=>I.imp id fun h=>⟨h.1,h.2.1,id,fun _=>id⟩) fun b I=>.inr ⟨(hF b I).2,(hF b I).1,id,fun _=>id⟩
theorem bn.view[Mode]{P:Program}{f:FuncId}{xs:List D}{Q:List D->Prop}(h:bn P f xs [] fun rc gs=>gs=[]/\∃l,rc=.o (.av l)/\Q l):bn P f xs [] fun rc gs=>gs=[]/\∃l,rc=.av l/\Q l:=by
 refine⟨h.1,fun w A vs gv Fs h0 h1 h2 h3 h4 W h6 h7=>(h.2 w A vs gv Fs h0 h1 h2 h3 h4 W h6 h7).mono ?_⟩;rintro e w' ⟨rc,ad,v,F,ag,ab,⟨rfl,l,rfl,hQ⟩,he,V,hc,_,_,Z,_,hF,_,_,I,S⟩;refine⟨_,_,v,fun _=>False,gv,fun _ _=>False,⟨rfl,l,rfl,hQ⟩,he,V,.rd (Ir hc fun b Y=>⟨(hF b Y).1,(hF b Y).2.1.elim id fun⟨j,hj⟩=>absurd hj (W j rfl b)⟩),fun _ _ h=>h,fun _=>Pl.dead,fun _ _ _ h=>h,fun _ _=>rfl,fun _ h=>h.elim,fun _ _ h=>h.elim,fun _ _ _ _ h=>h.elim,I,S⟩
theorem aA.view[Mode]{P:Program}{f:FuncId}{xs:List D}{res:D}(S:fB P f=true)(hx:∀x∈xs,x.refs dW)(hr:res.cL=true)(h:aA P f (xs.map .v) res):lE P f xs [] res []:=by
 refine⟨S,fun w A vs gv Fs h0 h1 h2 h3 h4 h5 h6 h7=>(h w A vs (fun _ _=>False) h0 h1 (by simpa using h2) (fun j a Z=>?_) (fun _ _ _ _ h=>h.elim) (fun _ _ h=>h.elim)).mono ?_⟩
 ·rw[List.getElem?_map,Option.map_eq_some_iff] at Z
  obtain⟨d,hd,rfl⟩:=Z;exact⟨po (h3 j d hd) (hx d (List.mem_of_getElem? hd)),fun _ h=>h⟩
 ·rintro e w' ⟨v,F,ab,he,Y,V,_,hF,_,_,I,W⟩
  refine⟨_,_,v,fun _=>False,gv,fun _ _=>False,⟨rfl,rfl⟩,he,Y,(qc hr).2 (.rd (Ir V fun b S=>⟨(hF b S).1,(hF b S).2.1.elim id fun⟨_,hj⟩=>hj.elim⟩)),fun _ _ h=>h,fun _=>Pl.dead,fun _ _ _ h=>h,fun _ _=>rfl,fun _ h=>h.elim,fun _ _ h=>h.elim,fun _ _ _ _ h=>h.elim,fun b S _=>I b S fun _ h=>h,W⟩
theorem lE.ret[Mode]{P:Program}{f:FuncId}{xs:List D}{d:D}(h:lE P f xs [] d [])(ho:d.cL=true)(hr:d.refs dW):aA P f (xs.map .v) (.vw d):=by
 intro w A vs Fs h0 h1 h2 h3 h4 h5;refine(h.2 w A vs (fun _=>undef) (fun _ _=>False) h0 h1 (by simpa using h2) (fun j a S=>.rd (h3 j (.v a) (by rw[List.getElem?_map,S];rfl)).1) (fun _=>Pl.dead) (fun _ _ _ h=>h) (fun _ _ _ _ h=>h.elim) (fun _ _ h=>h.elim)).mono ?_;rintro e w' ⟨rc,ag,v,F,ao,ad,⟨rfl,rfl⟩,he,Z,hc,a6,a7,ab,_,ax,a1,_,I,W⟩;have Y:=po ((qc ho).1 hc) hr;refine⟨v,fun _=>False,fun _ _=>False,he,Z,.vw (Y.mono (fun b V=>V.imp id fun h=>⟨h.1,h.2.1,id,fun _=>id⟩) fun _ _=>rfl),fun j a S=>?_,fun _ h=>h.elim,fun _ _ h=>h.elim,fun _ _ _ _ h=>h.elim,fun b V _=>I b V fun _ h=>h,W⟩;rw[List.getElem?_map,Option.map_eq_some_iff] at S;obtain⟨x,_,rfl⟩:=S;exact fun _ h=>h
end Go.D3
namespace Go.D3
open Go
theorem bn.clean[Mode]{P:Program}{f:FuncId}{xs:List D}{Q:List D->Prop}(h:bn P f xs [] fun rc gs=>gs=[]/\∃l,rc=.av l/\Q l)(hr:∀l,Q l->cu dW l) :
  bn P f xs [] fun rc gs=>gs=[]/\∃l,rc=.av (ei l)/\Q l:=by
 refine⟨h.1,fun w A vs gv Fs h0 h1 h2 h3 h4 h5 h6 h7=>(h.2 w A vs gv Fs h0 h1 h2 h3 h4 h5 h6 h7).mono ?_⟩;rintro e w' ⟨rc,Z,v,F,V,S,⟨rfl,l,rfl,Y⟩,he,W,hc,I,r⟩;exact⟨_,_,v,F,V,S,⟨rfl,l,rfl,Y⟩,he,W,Pl.rd (Rd.strip (d:=.av l) (po hc (hr l Y))),I,r⟩
theorem dD{l:List Int}:(ints l).strip=ints l:=by
 show D.slice _ (ei (l.map _))=D.slice _ (l.map _);rw[o5,List.map_map];rfl
theorem xq{α β:Type}{f:α->D}{d:α}{g:β->D}{e:β}{t:α->β}(I:(f d).strip=g e){l:List α}(h:∀x∈l,(f x).strip=g (t x)):(ae f d l).strip=ae g e (l.map t):=by
 show D.slice (f d).strip (ei (l.map f))=D.slice (g e) ((l.map t).map g);rw[I,o5,List.map_map,List.map_map];congr 1;exact List.map_congr_left fun x S=>h x S
theorem uL{l:List (List Int)}:(aC l).strip=aC l:=by
 have:=xq (f:=ints) (d:=[]) (g:=ints) (e:=[]) (t:=fun x=>x) dD (l:=l) fun x _=>dD
 rwa [List.map_id'] at this
theorem Zl[Mode]{P:Program}{f:FuncId}{xs ds:List D}{res:D}(h:aA P f (xs.map .v) res)(hw:ei ds=xs):aA P f (ds.map .v) res:=by
 subst hw;intro w A vs Fs h0 h1 h2 h3 h4 Y;refine(h w A vs Fs h0 h1 (by rw[h2];simp[oZ]) (fun j a S=>?_) h4 fun j b I=>⟨(Y j b I).1,(Y j b I).2.1,by simpa[oZ] using(Y j b I).2.2⟩).mono ?_
 ·rw[List.getElem?_map,Option.map_eq_some_iff] at S
  obtain⟨x,hx,rfl⟩:=S;obtain⟨d,Z,rfl⟩:=qK hx;have:=h3 j (.v d) (by rw[List.getElem?_map,Z];rfl);exact⟨this.1.strip,this.2⟩
 ·rintro e w' ⟨v,F,V,e1,e2,e3,e4,e5,W,e7⟩
  refine⟨v,F,V,e1,e2,e3,fun j a S=>?_,e5,fun j b I=>⟨(W j b I).1,(W j b I).2.1,by simpa[oZ] using(W j b I).2.2⟩,e7⟩;rw[List.getElem?_map,Option.map_eq_some_iff] at S;obtain⟨d,Z,rfl⟩:=S;exact e4 j (.v d.strip) (by rw[List.getElem?_map,o5,List.getElem?_map,Z];rfl)
theorem O4[Mode]{P:Program}{f:FuncId}{pl:Prop}{K:St->Prop}{st:St}{as:List Arg}{xs ds:List D}{res:D}(S:aA P f as res)(V:as=xs.map .v)(Y:ei ds=xs)(W:res.bA=true\/pl)(I:K (st.push (aV res))):@nS _ P f (some ds) true pl none ⟨K⟩ st :=
 aj (Zl (V▸S) Y) rfl W I
theorem aA.vws[Mode]{P:Program}{f:FuncId}{xs:List D}{res:D}(h:aA P f (xs.map .v) res):aA P f (xs.map .v) (.vw res.strip):=by
 intro w A vs Fs h0 h1 h2 h3 h4 h5;refine(h w A vs Fs h0 h1 h2 h3 h4 h5).mono ?_;rintro e w' ⟨v,F,W,he,ax,ad,Y,hF,V,ab,Z,ag⟩
 have hE:∀j b,¬W j b:=fun j b I=>by
  have S:=(V j b I).2.2;rw[List.length_map] at S;exact Y j (.v xs[j]) (by rw[List.getElem?_map,List.getElem?_eq_getElem S];rfl) b I
 have hn:∀j b,¬Fs j b:=fun j b I=>by
  have S:=(h5 j b I).2.2;rw[List.length_map] at S;exact(h3 j (.v xs[j]) (by rw[List.getElem?_map,List.getElem?_eq_getElem S];rfl)).2 b I
 have ao:Rd w' (fun b=>A b\/(w.heap.size<=b/\b<w'.heap.size/\¬False/\∀j,¬W j b)) v res :=
  ad.rd (fun b I=>I.imp id fun hh=>⟨hh.1,hh.2.1,id,hh.2.2.2⟩) fun b I=>.inr ⟨(hF b I).2.1.elim id fun⟨j,S⟩=>absurd S (hn j b),(hF b I).1,id,(hF b I).2.2⟩
 refine⟨v,fun _=>False,W,he,ax,.vw ao.strip,fun j a S=>?_,fun _ h=>h.elim,V,ab,Z,ag⟩;rw[List.getElem?_map,Option.map_eq_some_iff] at S;obtain⟨x,_,rfl⟩:=S;exact fun b I=>hE j b I
end Go.D3
namespace Go.D3.Tc
open Go
section
variable(E:Nat->D)(P:Array TypeInfo)(np:Nat)(tr:List Nat)(tm:Nat)(H:List (Nat×Nat))
def FJ(t:TypeId):TypeDesc:=match P[t]? with
 | some i=>i.desc
 | none=>.invalid
def ub(t:TypeId):TypeDesc:=match FJ P t with
 | .named _ u=>FJ P u
 | d=>d
def ot(t:TypeId):Nat:=match P[t]? with
 | some i=>i.size
 | none=>0
def HK(t:TypeId):Nat:=match P[t]? with
 | some i=>i.bytes
 | none=>0
def sS:TypeDesc->Bool
 | .struct _ | .array _ _=>true
 | _=>false
def ji:TypeDesc->TypeId
 | .slice e=>e
 | _=>0
def FU:Nat->TypeId->Nat
 | 0,_=>9
 | n+1,t=>match ub P t with
  | .int .i64=>0
  | .int .u8=>4
  | .bool=>5
  | .string=>7
  | .slice e=>[1,2,3,9,9,6,9,8].getD (FU n e) 9
  | _=>9
def xW(d:TypeDesc)(l:List D):D:=if sS d=true then .agg l else l.headD .dead
def zc:Nat->TypeId->List D
 | 0,_=>[]
 | n+1,t=>match ub P t with
  | .int k=>[.int k 0]
  | .bool=>[.bool false]
  | .string=>[.str []]
  | .slice e=>[match FU P 9 e with
   | 0=>E 0
   | 1=>E 1
   | 2=>E 2
   | 3=>E 3
   | 4=>E 4
   | 5=>E 5
   | 6=>E 6
   | 7=>E 7
   | 8=>E 8
   | _=>.slice (xW (ub P e) (zc n e)) []]
  | .struct I=>I.toList.flatMap fun f=>zc n f.type
  | .pointer _=>[.bd]
  | .map _ _=>[.bS]
  | .interface _=>[.bz]
  | _=>[.dead]
def ze(t:TypeId):D:=xW (ub P t) (zc E P 9 t)
def vzc(t:TypeId):List D:=match ub P t with
 | .slice e=>[.vw (.aH (ze E P e))]
 | .struct I=>I.toList.flatMap fun f=>match ub P f.type with
  | .slice e=>[.vw (.aH (ze E P e))]
  | _=>zc E P 9 f.type
 | _=>zc E P 9 t
def vze(t:TypeId):D:=xW (ub P t) (vzc E P t)
def nc:Nat->TypeId->List D
 | 0,_=>[]
 | n+1,t=>match ub P t with
  | .slice e=>[.aH (ze E P e)]
  | .struct I=>I.toList.flatMap fun f=>nc n f.type
  | _=>zc E P 9 t
def zC(t:TypeId):Nat:=match ub P t with
 | .int _=>0
 | .bool=>1
 | .string=>2
 | _=>9
def rv (t:TypeId)(i:Nat):Nat×TypeId:=match ub P t with
 | .struct I=>((I.getD i default).offset,(I.getD i default).type)
 | _=>(0,0)
structure Loc where
 l:List (Nat×Nat)
 m:Nat
def tX(loc:Loc)(t:TypeId):Operand->X
 | .tmp u=>match loc.m.testBit u with
  | true=>.t ((loc.l.lookup u).getD 0)
  | false=>.v (tr.idxOf u)
 | .const v=>match v with
  | .int .i64 n=>.i n
  | .int k n=>.k (.int k n)
  | .bool b=>.k (.bool b)
  | .string s=>.k (.str s.data.toList)
  | .pointer _=>.k .bd
  | .nilIface=>.k .bz
  | .slice _ _ _=>.k (.aH (ze E P (ji (ub P t))))
  | _=>.k .dead
 | .func f=>.k (.fn f [])
 | .global g=>.g g
def MW(loc:Loc):List Operand->List TypeId->List X
 | x::l,t::r=>tX E P tr loc t x::MW loc l r
 | _,_=>[]
def xj(sh:List (Nat×Nat)):Operand->Nat
 | .tmp u=>(sh.lookup u).getD 0
 | _=>0
def GQ(loc:Loc)(sh:List (Nat×Nat)):Operand->Bool
 | .tmp u=>match sh with
  | []=>false
  | _=>loc.m.testBit u&&sh.lookup u == some 2
 | _=>false
def SE:Op->Option Operand
 | .move y | .assign y=>some y
 | _=>none
def E0(d:Nat):Operand->Nat
 | .tmp u=>if H.elem (9,0) || H.elem (9,1)&&decide (np<=u) then 2 else if H.elem (11,d) || H.elem (9,2) then 3 else 0
 | _=>if H.elem (9,0) || H.elem (9,1) then 2 else if H.elem (11,d) || H.elem (9,2) then 3 else 0
def tK(loc:Loc)(sh:List (Nat×Nat))(ch:Bool)(o:Oper):Kp :=
 let x:=tX E P tr loc;let d:=o.dst.getD 0
 match o.op with
 | .move y | .assign y=>if GQ loc sh y=true then .bo (x 0 y) else if ch=true then(if H.elem (4,d)=true then Kp.ku else if(H.elem (3,d) || xj sh y == 1)=true then Kp.kr else Kp.ch) (tr.idxOf d) (x o.type y) else .mv (x o.type y)
 | .pick a b c=>.pick (x 0 a) (x 0 b) (x 0 c)
 | .binOp op t y z _=>match z,op == .eql || op == .neq with
  | .const .nilIface,true=>.rS (op == .neq) (x 0 y)
  | .const (.slice none _ _),true=>.p7 (op == .neq) (x t y)
  | _,_=>match ub P t with
   | .struct S=>.eqs (op == .neq) (S.toList.map fun f=>zC P f.type) (x 0 y) (x 0 z)
   | _=>if(op == .shr)=true then .shr (x t y) (x 0 z) else .bin op (x t y) (x t z)
 | .unOp .not _ y=>.not (x 0 y)
 | .convert s t y=>match ub P s,ub P t with
  | .int _,.int k=>.conv k (x 0 y)
  | .slice _,.string=>.pA (x s y)
  | .string,.slice _=>.gM (x s y)
  | _,_=>default
 | .indexAddr t y i=>.aB (ot P (ji (ub P t))) (x 0 y) (x 0 i)
 | .load t a=>if sS (ub P t)=true then .dz (ot P t) (x 0 a) else .ld (x 0 a)
 | .store t a v=>if H.elem (7,t)=true then .mj (if sS (ub P t)=true then ot P t else 1) (x 0 a) (x t v) else if sS (ub P t)=true then .eh (ot P t) (x 0 a) (x t v) else .st (x 0 a) (x t v)
 | .fieldAddr t y i=>.fA (rv P t i).1 (x 0 y)
 | .field t y i=>.ru (rv P t i).1 (x 0 y)
 | .index _ y i=>.rC (x 0 y) (x 0 i)
 | .build t ps=>.iP (nc E P 9 t) (ps.toList.map fun p=>((rv P t p.1).1,ot P (rv P t p.1).2,x (rv P t p.1).2 p.2))
 | .buildSlice t n ps=>if H.elem (15,d)=true then .mw (ze E P (ji (ub P t))) n (ps.toList.map fun p=>(p.1,x (ji (ub P t)) p.2)) else if H.elem (8,d)=true then .mu (ze E P (ji (ub P t))) (match ps.toList with | p::_=>x (ji (ub P t)) p.2 | []=>.i 0) else .aU (ze E P (ji (ub P t))) n (ps.toList.map fun p=>(p.1,x (ji (ub P t)) p.2))
 | .extract y i=>.ext i (x 0 y)
 | .nilCheck y=>.oo (x 0 y)
 | .alloc t=>.fc (nc E P 9 t)
 | .box t y=>if H.elem (16,t)=true then .gU t ((H.find? fun p=>p.1 == 17).elim 0 (·.2)) (x t y) else(match E0 np H d y with | 2=>Kp.my | 3=>Kp.box | _=>Kp.fP) (ot P t) (x t y)
 | .makeSlice t l c=>.ah (if H.elem (12,d)=true then vze E P (ji (ub P t)) else ze E P (ji (ub P t))) (HK P (ji (ub P t))) (x 0 l) (x 0 c)
 | .slice t y l h none=>(match ub P t with | .string=>Kp.qF | _=>Kp.sl) (x t y) (l.map (x 0)) (h.map (x 0))
 | .range _ y=>.e8 (x 0 y)
 | .makeInterface t y=>.rN t (x t y)
 | .next (.tmp u) _=>.ni (tr.idxOf u)
 | .makeMap _ none=>.gV
 | .lookup m y k ok=>match ub P m with
  | .map I e=>.pV ok (zC P I) (ze E P e) (x m y) (x I k)
  | _=>default
 | .mapUpdate m y k v=>match ub P m with
  | .map I e=>.ng (zC P I) (x m y) (x I k) (x e v)
  | _=>default
 | .makeFunc (.func f) _ cs=>.rO f (cs.toList.map (x 0))
 | .call c =>
  let as:=MW E P tr loc c.args.toList c.argTypes.toList
  match c.callee with
  | .builtin b=>match b,as,c.argTypes.toList with
   | .len,[y],t::_=>(match ub P t with | .slice _=>Kp.len | .string=>Kp.rK | _=>Kp.pS) y
   | .append,[y,z],t::_=>.app (ot P (ji (ub P t))) (HK P (ji (ub P t))) y z
   | .max,[y,z],_=>.mm true y z
   | .min,[y,z],_=>.mm false y z
   | _,_,_=>default
  | .value (.func f)=>if H.elem (0,f)=true then .dyn (.k (.fn f [])) as else if H.elem (2,f)=true then .jh f as else .call f as
  | .value y=>.dyn (x 0 y) as
  | _=>default
 | _=>default
def ay(sh:List (Nat×Nat))(o:Oper):Nat:=match o.op with
 | .move y | .assign y | .nilCheck y | .fieldAddr _ y _=>xj sh y
 | .load t a=>match ub P t with
  | .struct _=>if xj sh a=3 then 0 else 1
  | _=>0
 | .field t y i=>match ub P (rv P t i).2 with
  | .struct _=>if xj sh y=1 then 1 else 0
  | _=>0
 | .alloc _=>3
 | .box _ y=>E0 np H (o.dst.getD 0) y
 | .call c=>match c.callee with
  | .value (.func f)=>if H.elem (1,f)=true then 2 else 0
  | _=>0
 | _=>0
def Mz(sh:List (Nat×Nat))(d s:Nat):List (Nat×Nat):=if s=0 then(if(sh.lookup d).isSome=true then(d,0)::sh else sh) else(d,s)::sh
def vh:List Edge->List Nat
 | []=>[]
 | ⟨_,.textOnly _⟩::r | ⟨_,.gcOnly _⟩::r=>vh r
 | ⟨n,_⟩::r=>n::vh r
def HT:List Nat->Nat->Nat
 | [],_=>0
 | x::_,0=>x
 | _::r,n+1=>HT r n
def Fo(acc:List Nat):List Nat->Nat->Nat
 | [],m=>m
 | j::r,m=>Fo acc r (m ||| (1 <<< j) ||| HT acc j)
def Fl:List Nat->List Oper->List Nat
 | acc,[]=>acc
 | acc,o::r=>Fl (acc++[Fo acc (vh o.after.toList) 0]) r
def BN(b:Nat):Nat->List Nat->Nat->Nat
 | _,[],m=>m
 | k,c::r,m=>match c.testBit b with
  | true=>BN b (k+1) r (m ||| (1 <<< k))
  | false=>BN b (k+1) r m
def cs(cl:List Nat):Nat->List Nat->List (Nat×Nat)
 | _,[]=>[]
 | k,c::r=>(c,BN k 0 cl 0)::cs cl (k+1) r
def ou:List (Nat×Nat)->Nat->Nat×Nat
 | [],_=>(0,0)
 | x::_,0=>x
 | _::r,n+1=>ou r n
def Nd(i j m n:Nat):Nat->List (Nat×Nat)->List (Nat×Nat)
 | _,[]=>[]
 | k,(c,s)::r=>(match k == j || c.testBit j with | true=>c ||| m | false=>c,match k == i || s.testBit i with | true=>s ||| n | false=>s)::Nd i j m n (k+1) r
def Ew(i j:Nat)(p:List (Nat×Nat)):List (Nat×Nat):=match ou p i,ou p j with
 | (c,_),(_,s)=>Nd i j (c ||| (1 <<< i)) (s ||| (1 <<< j)) 0 p
def uo:List Nat->Nat->Nat->Nat
 | [],_,n=>n
 | i::r,j,n=>match i == j with
  | true=>n
  | false=>uo r j (n+1)
def vOp(vs ds:Nat):Op->Bool
 | .move (.tmp t) | .nilCheck (.tmp t) | .fieldAddr _ (.tmp t) _=>vs.testBit t || !ds.testBit t
 | _=>false
def sC(ds:Nat):Nat->Nat->Nat->List Oper->Nat
 | _,_,is,[]=>is
 | i,vs,is,o::r=>match o.guard,o.dst with
  | none,some d=>match tm.testBit d with
   | true=>sC ds (i+1) vs is r
   | false=>match vOp vs ds o.op with
    | false=>sC ds (i+1) vs is r
    | true=>match(vh o.after.toList).all fun j=>is.testBit j with
     | true=>sC ds (i+1) (vs ||| (1 <<< d)) (is ||| (1 <<< i)) r
     | false=>sC ds (i+1) vs is r
  | _,_=>sC ds (i+1) vs is r
def yG:List Oper->Nat->Nat
 | [],m=>m
 | o::r,m=>match o.dst with
  | some d=>yG r (m ||| (1 <<< d))
  | none=>yG r m
structure R1 where
 pre:List Nat
 l:List bh
 post:List (Nat×Nat)
 loc:Loc
 sh:List (Nat×Nat)
def Ol (b:Bool)(k:Kp):Kp:=match b with
 | true=>match k with
  | .app 1 n (.t b) (.t s)=>.eK 1 n b s
  | k=>k
 | false=>k
structure Oq where
 o:Oper
 g:Option (Nat×Bool)
 b:Bool
def tS:Nat->List Oq->R1->R1
 | _,[],r=>r
 | i,q::os,r=>match SE q.o.op,q.o.dst with
  | m,some d=>match m.any (GQ r.loc r.sh),tm.testBit d with
   | bo,tk=>match m.isSome&&tk&&q.g.isNone&&q.b&&!bo with
    | true=>tS (i+1) os ⟨r.pre,⟨q.g,tK E P np tr H r.loc r.sh true q.o⟩::r.l,r.post,⟨r.loc.l.filter (·.1 != d),r.loc.m ^^^ (r.loc.m &&& (1 <<< d))⟩,Mz r.sh d (ay P np H r.sh q.o)⟩
    | false=>match⟨q.g,Ol (!q.b&&q.g.isNone) (tK E P np tr H r.loc r.sh false q.o)⟩::r.l,(⟨(d,i)::r.loc.l,r.loc.m ||| (1 <<< d)⟩:Loc),Mz r.sh d (if bo=true then 3 else ay P np H r.sh q.o) with
     | l,loc,sh=>match tk with
      | true=>match tr.idxOf d with
       | j=>tS (i+1) os ⟨r.pre++[j],l,r.post.filter (·.1 != j)++[(j,i)],loc,sh⟩
      | false=>tS (i+1) os ⟨r.pre,l,r.post,loc,sh⟩
  | _,none=>tS (i+1) os ⟨r.pre,⟨q.g,tK E P np tr H r.loc r.sh false q.o⟩::r.l,r.post,r.loc,r.sh⟩
def tR(I:List Oq)(sh:List (Nat×Nat)):R1:=match tS E P np tr tm H 0 I ⟨[],[],[],⟨[],0⟩,sh⟩ with
 | ⟨p,l,q,loc,sh⟩=>⟨p,l.reverse,q,loc,sh⟩
def FT(o:Oper):Bool:=match o.op with
 | .assign _ | .store _ _ _ | .mapUpdate _ _ _ _ | .next _ _=>true
 | .buildSlice _ _ _=>H.elem (8,o.dst.getD 0) || H.elem (15,o.dst.getD 0)
 | .call c=>match c.callee with
  | .builtin .append | .builtin .copy | .builtin .delete=>true
  | .value (.func f)=>H.elem (0,f) || H.elem (2,f)
  | .value _=>true
  | _=>false
 | _=>false
def QS:Op->Bool
 | .assign _=>true
 | _=>false
def yL:Nat->List Oper->List Nat
 | _,[]=>[]
 | i,o::r=>match FT H o with
  | true=>i::yL (i+1) r
  | false=>yL (i+1) r
def yK:Nat->List Oper->List Nat
 | _,[]=>[]
 | i,o::r=>match FT H o&&!QS o.op with
  | true=>i::yK (i+1) r
  | false=>yK (i+1) r
def comp(full I:Nat)(p:List (Nat×Nat))(e:Nat):Bool:=match ou p e with
 | (c,s)=>c ||| s ||| (1 <<< e) ||| I == full
def cS(full I:Nat)(p:List (Nat×Nat)):List Nat->Bool
 | []=>true
 | e::r=>match comp full I p e with
  | true=>cS full I p r
  | false=>false
def HU:List Oper->Nat->Oper
 | [],_=>default
 | x::_,0=>x
 | _::r,n+1=>HU r n
def vR(full I:Nat)(p:List (Nat×Nat))(ops:List Oper)(l:List Nat):List Nat->List Oq
 | []=>[]
 | i::r=>match HU ops i with
  | o=>⟨o,match o.guard with | some (j,w)=>some (uo l j 0,w) | none=>none,comp full I p i⟩::vR full I p ops l r
def Ik:List Oper->List Oq
 | []=>[]
 | o::r=>⟨o,o.guard,true⟩::Ik r
def xg(b:Bool)(m:Nat):List Nat->List Nat
 | []=>[]
 | i::r=>match m.testBit i == b with
  | true=>i::xg b m r
  | false=>xg b m r
def BQ(full I:Nat)(ops:List Oper)(S:List Nat)(p:List (Nat×Nat))(l:List Nat)(sh:List (Nat×Nat)):Option R1:=match cS full 0 p S with
 | true=>some (tR E P np tr tm H (vR full 0 p ops l l) sh)
 | false=>match cS full I p S with
  | true=>match xg true I l++xg false I l with
   | l=>some (tR E P np tr tm H (vR full I p ops l l) sh)
  | false=>none
def GB(p:List (Nat×Nat))(i j:Nat):Nat->Nat->List Nat->List Nat->List Nat
 | 0,_,pm,left=>pm++left
 | m+1,b,pm,left=>match left.find? fun k=>((ou p k).1 &&& b) == (ou p k).1&&(k != i || b.testBit j) with
  | some k=>GB p i j m (b ||| (1 <<< k)) (pm++[k]) (left.erase k)
  | none=>pm++left
def vS(i j:Nat):List Nat->List Nat
 | []=>[]
 | k::r=>match k == i,k == j with
  | true,_=>vS i j r
  | _,true=>j::i::vS i j r
  | _,_=>k::vS i j r
def wq(e u:Nat):List Nat->Option Nat->Bool->Option (Nat×Nat)
 | [],d,_=>d.map fun q=>(e,q)
 | k::r,d,past=>match k == e with
  | true=>match d with
   | some q=>some (q,e)
   | none=>wq e u r none true
  | false=>match u.testBit k,past with
   | true,true=>some (e,k)
   | true,false=>wq e u r (some k) false
   | false,_=>wq e u r d past
def zf(p:List (Nat×Nat))(i j:Nat):Bool->List Nat->Bool
 | _,[]=>false
 | I,k::r=>match k == i,k == j with
  | true,_=>zf p i j true r
  | _,true=>false
  | _,_=>match I&&(ou p k).1.testBit i with
   | true=>true
   | false=>zf p i j I r
def xt(go:List (Nat×Nat)->List Nat->Option (List Nat×RT))(full I:Nat)(p:List (Nat×Nat))(l:List Nat):List Nat->Option (List Nat×RT)
 | []=>none
 | e::es=>match ou p e with
  | (c,s)=>match wq e (full ^^^ ((c ||| s ||| (1 <<< e) ||| I) &&& full)) l none false with
   | none=>xt go full I p l es
   | some (i,j)=>match go (Ew i j p) l with
    | none=>xt go full I p l es
    | some x=>match(match zf p i j false l with | true=>GB p i j l.length 0 [] l | false=>vS i j l) with
     | S=>match go (Ew j i p) S with
      | none=>xt go full I p l es
      | some y=>some (x.1,.two (uo l i 0) (uo l j 0) (S.map fun k=>uo l k 0) x.2 y.2)
def tT(full I:Nat)(ops:List Oper)(V S:List Nat)(sh:List (Nat×Nat)):Nat->List (Nat×Nat)->List Nat->Option (List Nat×RT)
 | 0,p,l=>match BQ E P np tr tm H full I ops S p l sh with
  | some r=>some (r.pre,.leaf r.l r.post)
  | none=>none
 | m+1,p,l=>match BQ E P np tr tm H full I ops S p l sh with
  | some r=>some (r.pre,.leaf r.l r.post)
  | none=>xt (tT full I ops V S sh m) full I p l V
def BR(ops:List Oper)(draw:Bool)(sh:List (Nat×Nat)):Option (List Nat×RT)×R1 :=
 match draw with
 | false=>(none,tR E P np tr tm H (Ik ops) sh)
 | true=>match Fl [] ops,1 <<< ops.length-1,sC tm (yG ops 0) 0 0 0 ops,yK H 0 ops,List.range ops.length with
  | cl,full,S,I,l=>match cs cl 0 cl with
   | p=>match BQ E P np tr tm H full S ops I p l sh with
    | some r=>(none,r)
    | none=>(tT E P np tr tm H full S ops (yL H 0 ops) I sh 6 p l,tR E P np tr tm H (vR full 0 p ops l l) sh)
def bits:List Nat->Nat
 | []=>0
 | i::r=>(1 <<< i) ||| bits r
def tC:Code->List (Nat×Nat)->C×List (Nat×Nat)
 | .skip,sh=>(.skip,sh)
 | .ret,sh=>(.ret,sh)
 | .exit i,sh=>(.exit i,sh)
 | .region _ ops draw,sh=>match BR E P np tr tm H ops.toList draw sh with
  | (some (p,t),r)=>(.alt p t,r.sh)
  | (none,r)=>(.ops r.pre r.l r.post,r.sh)
 | .seq (.region _ ops draw) (.cond x a b),sh =>
  let r:=(BR E P np tr tm H ops.toList draw sh).2;let a:=tC a r.sh;let b:=tC b a.2
  (.dJ r.pre r.l r.post (tX E P tr r.loc 0 x) a.1 b.1,b.2)
 | .seq (.region _ ops draw) (.seq (.cond x a b) c),sh =>
  let r:=(BR E P np tr tm H ops.toList draw sh).2;let a:=tC a r.sh;let b:=tC b a.2;let c:=tC c b.2
  (.wL r.pre r.l r.post (tX E P tr r.loc 0 x) a.1 b.1 c.1,c.2)
 | .seq a b,sh=>let a:=tC a sh;let b:=tC b a.2;(.seq a.1 b.1,b.2)
 | .cond x a b,sh=>let a:=tC a sh;let b:=tC b a.2;(.cond (tX E P tr ⟨[],0⟩ 0 x) a.1 b.1,b.2)
 | .block i a,sh=>let a:=tC a sh;(.block i a.1,a.2)
 | .loop a,sh=>let a:=tC a sh;(.loop a.1,a.2)
 | _,sh=>(.skip,sh)
end
def BA(P:Array TypeInfo):Nat->List TypeId->List (Nat×Nat)
 | _,[]=>[]
 | j,t::r=>match ub P t with
  | .struct _=>(j,1)::BA P (j+1) r
  | _=>BA P (j+1) r
def toC(P:Array TypeInfo)(fn:Func)(tr:List Nat)(H:List (Nat×Nat))(E:Nat->D):C:=(tC E P fn.params.size tr (bits tr) H (fn.body.getD .skip) (BA P 0 fn.params.toList)).1
def ie(P:Array TypeInfo)(tr:List Nat):List ResultVar->List RS
 | []=>[]
 | .tmp t::l=>.t (tr.idxOf t)::ie P tr l
 | .cell a t::l=>.c (tr.idxOf a) (ot P t) (sS (ub P t))::ie P tr l
def toS(P:Array TypeInfo)(fn:Func)(tr:List Nat)(H:List (Nat×Nat))(E:Nat->D):C×List RS:=(toC P fn tr H E,ie P tr fn.results.toList)
end Go.D3.Tc
namespace Go.D3
def enc:Nat->D
 | 0=>ints []
 | 1=>aC []
 | 2=>iS []
 | 3=>GN []
 | 4=>bytes []
 | 5=>jg []
 | 6=>vj []
 | 7=>jv []
 | _=>xr []
inductive Wh{α:Type}(x:α):Prop where
 | mk
theorem wh{α:Type}{x:α}(p:Prop)(_:p=Wh x):Wh x:=.mk
structure Sl where
 s:(Nat->D)->C×List RS
def ah(T:Array TypeInfo)(fn:Func)(tr:List Nat)(H:List (Nat×Nat)){s:(Nat->D)->C×List RS}(_:∀E,Wh (Tc.toS T fn tr H E)->Wh (s E):=by intro E h;cbv at h;exact wh (type_of% h) rfl):Sl:=⟨s⟩
def aE(P:Program)(fn:Func)(tr:List Nat)(s:Sl)(n:Nat):Bool:=mL P fn tr (s.s enc).1 n (s.s enc).2
attribute [go_sem] enc.eq_1 enc.eq_2 enc.eq_3 enc.eq_4 enc.eq_5 enc.eq_6 enc.eq_7 enc.eq_8 enc.eq_9
section
variable[Mode]{P:Program}{f:FuncId}{fn:Func}{tr:List Nat}{s:Sl}
theorem aQ{as:List Arg}{res:D}(V:P.funcs[f]?=some fn)(I:aE P fn tr s as.length=true)(Y:bU P (s.s enc).1 (out (s.s enc).2 res tr.length as) ⟨fun _ _=>False,out (s.s enc).2 res tr.length as⟩ (eV tr as))
  (S:qT as=true:=by exact rfl) (W:as.length<500:=by simp only[List.length_cons,List.length_nil];decide):aA P f as res:=XY V I S W rfl Y
theorem I1{as gs I:List D}{rc:D}(m:RM)(Y:P.funcs[f]?=some fn)(V:aE P fn tr s as.length=true)(hv:bU P (s.s enc).1 (nm (s.s enc).2 m rc tr.length gs I) ⟨fun _ _=>False,nm (s.s enc).2 m rc tr.length gs I⟩ (kJ tr as gs))
  (S:(fn.name == "runtime.NumGoroutine")=false:=by exact rfl) (W:kT as=true:=by exact rfl) (Z:as.length<500/\gs.length<400:=by exact⟨by simp only[List.length_cons,List.length_nil];decide,by simp only[List.length_cons,List.length_nil];decide⟩) (hm:m=.view->gs=[]:=by intro h;first | rfl | cases h):lE P f as gs rc I:=XZ m Y S V W Z rfl hm hv
theorem dB{as gs:List D}{Q:D->List D->Prop}(m:RM)(W:P.funcs[f]?=some fn)(S:aE P fn tr s as.length=true)(Z:bU P (s.s enc).1 (mc (s.s enc).2 m Q tr.length gs) ⟨fun _ _=>False,mc (s.s enc).2 m Q tr.length gs⟩ (kJ tr as gs))
  (I:(fn.name == "runtime.NumGoroutine")=false:=by exact rfl) (V:kT as=true:=by exact rfl) (Y:as.length<500/\gs.length<400:=by exact⟨by simp only[List.length_cons,List.length_nil];decide,by simp only[List.length_cons,List.length_nil];decide⟩) (hm:m=.view->gs=[]:=by intro h;first | rfl | cases h):bn P f as gs Q:=A1 m W I S V Y rfl hm Z
end
end Go.D3
namespace Go.D3
open Go
inductive Ty where
 | int (k:IntKind)
 | bool
 | str
 | sl (e:Ty)
 | nil
 | cons (a b:Ty)
def Ty.V:Ty->Type
 | .int _=>Int
 | .bool=>Bool
 | .str=>List UInt8
 | .sl e=>List e.V
 | .nil=>Unit
 | .cons a b=>a.V×b.V
def Ty.st:Ty->Bool
 | .nil | .cons _ _=>true
 | _=>false
def uS(s:Bool)(l:List D):D:=match s with
 | true=>.agg l
 | false=>l.headD .dead
def Ty.z:(t:Ty)->t.V
 | .int _=>(0:Int)
 | .bool=>false
 | .str=>[]
 | .sl _=>[]
 | .nil=>()
 | .cons a b=>(a.z,b.z)
def Ty.n:Ty->Nat
 | .nil=>0
 | .cons a b=>a.n+b.n
 | _=>1
def Ty.cs:(t:Ty)->t.V->List D
 | .int k,(x:Int)=>[.int k x]
 | .bool,(x:Bool)=>[.bool x]
 | .str,(x:List UInt8)=>[.str x]
 | .sl e,(l:List e.V)=>[.slice (uS e.st (e.cs e.z)) (l.map fun x=>uS e.st (e.cs x))]
 | .nil,_=>[]
 | .cons a b,(x,y)=>a.cs x++b.cs y
def Ty.d(t:Ty)(x:t.V):D:=uS t.st (t.cs x)
theorem Ty.rf:∀(t:Ty)(x:t.V),(t.cs x).length=t.n
 | .int _,_=>rfl
 | .bool,_=>rfl
 | .str,_=>rfl
 | .sl _,_=>rfl
 | .nil,_=>rfl
 | .cons a b,(x,y)=>by simp only[Ty.cs,List.length_append,Ty.n,Ty.rf a x,Ty.rf b y]
theorem Ty.yC:∀(t:Ty)(x:t.V),(t.d x).cells=t.cs x
 | .int _,_=>rfl
 | .bool,_=>rfl
 | .str,_=>rfl
 | .sl _,_=>rfl
 | .nil,_=>rfl
 | .cons _ _,_=>rfl
def Ty.dG(P:Program):Ty->(TypeId ⊕ (List Field×Nat))->Bool
 | .int k,.inl T=>(match P.underlying T with | some (.int I)=>decide (I=k) | _=>false)
 | .bool,.inl T=>(match P.underlying T with | some .bool=>true | _=>false)
 | .str,.inl T=>(match P.underlying T with | some .string=>true | _=>false)
 | .sl e,.inl T=>(match P.underlying T with | some (.slice E)=>e.dG P (.inl E)&&decide (P.cellsOf E=e.n)&&decide (0<e.n) | _=>false)
 | .nil,.inr ([],_)=>true
 | .cons a b,.inr (f::r,off)=>decide (f.offset=off)&&decide (P.cellsOf f.type=a.n)&&a.dG P (.inl f.type)&&b.dG P (.inr (r,off+a.n))
 | .cons a b,.inl T=>(match P.underlying T with
  | some (.struct fs)=>decide (P.cellsOf T=a.n+b.n)&&(match fs.toList with
   | f::r=>decide (f.offset=0)&&decide (P.cellsOf f.type=a.n)&&a.dG P (.inl f.type)&&b.dG P (.inr (r,a.n))
   | []=>false)
  | _=>false)
 | _,_=>false
section
variable{H:Type}{enc:TypeId×Value->H}{P:Program}{w:World}{base:Nat}{spare:Nat->Bool}{held:Bool}
def jl(w:World)(b:Nat):Prop:=b<w.heap.size
theorem Fj{a:Addr}{v:Value}(h:w.cell? a=some v):a.block<w.heap.size/\a.spot=none:=by
 unfold World.cell? at h;split at h
 ·rename_i c _ _ I
  refine⟨?_,?_⟩
  ·have:=Array.getElem?_eq_some_iff.1 I;exact this.1
  ·split at h
   ·cases h
   ·rename_i S;simpa using S
 ·cases h
theorem xz:∀(ty:Ty),(∀{T:TypeId}{fuel:Nat}{vs:List Value}{x:DataW H×List MemPlace},ty.dG P (.inl T)=true->DataW.trod enc P w base spare held fuel T vs=some x ->
   ∃y:ty.V,vs.length=ty.n/\∀j c,(ty.cs y)[j]?=some c->Rd w (jl w) (vs.getD j undef) c) /\
  (∀{r:List Field}{off fuel:Nat}{vs:List Value},ty.dG P (.inr (r,off))=true->(∀(i:Nat)(f:Field),r[i]?=some f->∃x,DataW.trod enc P w base spare held fuel f.type ((vs.drop f.offset).take (P.cellsOf f.type))=some x) ->
    ∃y:ty.V,∀j c,(ty.cs y)[j]?=some c->Rd w (jl w) (vs.getD (off+j) undef) c)
 | .int k=>by
  refine⟨fun {T fuel vs x} I h=>?_,fun {r off fuel vs} I _=>by simp[Ty.dG] at I⟩;simp only[Ty.dG] at I;split at I<;>try(cases I;done)
  rename_i k' hu;simp only[decide_eq_true_eq] at I;subst I;obtain⟨n,rfl,_,hw⟩:=DataW.trod_int hu h;refine⟨n,rfl,fun j c S=>?_⟩;cases j with
  | zero=>simp[Ty.cs] at S;subst S;exact .int (by simpa[Lit.wf,IntKind.has] using hw)
  | succ j=>simp[Ty.cs] at S
 | .bool=>by
  refine⟨fun {T fuel vs x} I h=>?_,fun {r off fuel vs} I _=>by simp[Ty.dG] at I⟩;simp only[Ty.dG] at I;split at I<;>try(cases I;done)
  rename_i hu;obtain⟨n,rfl,_⟩:=DataW.trod_bool hu h;refine⟨n,rfl,fun j c S=>?_⟩;cases j with
  | zero=>simp[Ty.cs] at S;subst S;exact .bool
  | succ j=>simp[Ty.cs] at S
 | .str=>by
  refine⟨fun {T fuel vs x} I h=>?_,fun {r off fuel vs} I _=>by simp[Ty.dG] at I⟩;simp only[Ty.dG] at I;split at I<;>try(cases I;done)
  rename_i hu;obtain⟨s,rfl,_,hs⟩:=DataW.trod_string hu h;refine⟨s.data.toList,rfl,fun j c S=>?_⟩;cases j with
  | zero =>
   simp[Ty.cs] at S;subst S;have:=Rd.str (w:=w) (A:=jl w) (s:=s.data.toList) (by simpa using hs);rw[<-yD] at this;exact this
  | succ j=>simp[Ty.cs] at S
 | .sl e=>by
  refine⟨fun {T fuel vs x} I h=>?_,fun {r off fuel vs} I _=>by simp[Ty.dG] at I⟩;simp only[Ty.dG] at I;split at I<;>try(cases I;done)
  rename_i E hu;simp only[Bool.and_eq_true,decide_eq_true_eq] at I;obtain⟨⟨ax,a1⟩,W⟩:=I
  have one:∀(l:List e.V)(v:Value),vs=[v]->Rd w (jl w) v (.slice (e.d e.z) (l.map e.d))->∃y:(Ty.sl e).V,vs.length=(Ty.sl e).n/\∀j c,((Ty.sl e).cs y)[j]?=some c->Rd w (jl w) (vs.getD j undef) c:=by
   rintro l v rfl hr;refine⟨l,rfl,fun j c S=>?_⟩;cases j with
   | zero=>simp[Ty.cs] at S;subst S;exact hr
   | succ j=>simp[Ty.cs] at S
  rcases DataW.trod_slice hu h with⟨ab,_⟩ | ⟨a,len,cap,elems,rest,n,_,ab,_,hb,hl,hm,hlen,a7,_,_⟩
  ·exact one [] _ ab .nil
  ·cases len with
   | zero=>exact one [] _ ab (.empty hm)
   | succ len =>
    have each:∀i,∃(y:e.V)(us:List Value),i<len+1->us.length=e.n/\(∀j,j<e.n->w.cell? (a.add (i*e.n+j))=us[j]?)/\∀j c,(e.cs y)[j]?=some c->Rd w (jl w) (us.getD j undef) c:=by
     intro i;by_cases hi:i<len+1
     ·have h1:=a7 i hi
      have h2:elems[i]?=some elems[i]:=List.getElem?_eq_getElem (by omega);rw[h2,Option.bind_eq_some_iff] at h1;obtain⟨us,h3,h4⟩:=h1;obtain⟨y,h5,h6⟩:=(xz e).1 ax h4;obtain⟨_,h8,h7⟩:=World.cells?_some h3;rw[a1] at h7 h8;refine⟨y,us,fun _=>⟨h5,fun j S=>?_,h6⟩⟩;rw[<-Addr.add_add];exact h7 j S
     ·exact⟨e.z,[],fun hh=>absurd hh hi⟩
    obtain⟨y,us,ag⟩:∃(y:Nat->e.V)(us:Nat->List Value),∀i,i<len+1->(us i).length=e.n/\(∀j,j<e.n->w.cell? (a.add (i*e.n+j))=(us i)[j]?)/\∀j c,(e.cs (y i))[j]?=some c->Rd w (jl w) ((us i).getD j undef) c :=
     ⟨fun i=>Classical.choose (each i),fun i=>Classical.choose (Classical.choose_spec (each i)),fun i=>Classical.choose_spec (Classical.choose_spec (each i))⟩
    obtain⟨q1,q2,q3⟩:=ag 0 (by omega);have h0:=q2 0 W
    have ad:∃u,w.cell? a=some u:=by
     rw[Nat.zero_mul,Nat.zero_add,Addr.add_zero'] at h0;rw[h0];exact⟨(us 0)[0]'(by show 0<(us 0).length;rw[q1];exact W),List.getElem?_eq_getElem _⟩
    obtain⟨u0,ad⟩:=ad;obtain⟨l1,l2⟩:=Fj ad;obtain⟨b,off,spot⟩:=a;simp only at l1 l2;subst l2
    have bF:∀d∈(List.range (len+1)).map (fun i=>e.d (y i)),d.cells.length=e.n:=by
     intro d Y;obtain⟨i,_,rfl⟩:=List.mem_map.1 Y;rw[Ty.yC,Ty.rf]
    have Z:∀j d,cellAt ((List.range (len+1)).map fun i=>e.d (y i)) e.n j=some d->∃i o,j=i*e.n+o/\i<len+1/\o<e.n/\(e.cs (y i))[o]?=some d:=by
     intro j d Y;unfold cellAt at Y;rw[List.getElem?_map] at Y;by_cases hi:j / e.n<len+1
     ·rw[List.getElem?_range hi] at Y
      simp only[Option.map_some,Option.bind_some,Ty.yC] at Y;refine⟨j / e.n,j % e.n,by rw[Nat.mul_comm];exact(Nat.div_add_mod j e.n).symm,hi,Nat.mod_lt _ W,Y⟩
     ·rw[List.getElem?_eq_none (by simpa using hi)] at Y
      simp at Y
    have hr:Rd w (jl w) (.slice (some ⟨b,off,none⟩) ((List.range (len+1)).map fun i=>e.d (y i)).length cap) (.slice (e.d e.z) ((List.range (len+1)).map fun i=>e.d (y i))):=by
     refine Rd.slice l1 (by simpa using hl) hm W (by rw[Ty.yC,Ty.rf]) bF (fun j=>(us (j / e.n)).getD (j % e.n) undef) (fun j d Y=>?_) (fun j d Y=>?_)
     ·obtain⟨i,o,rfl,hi,ho,_⟩:=Z j d Y
      obtain⟨p1,p2,_⟩:=ag i hi;have:=p2 o ho;rw[Addr.add_lit] at this;rw[this];have e1:(i*e.n+o) / e.n=i:=by rw[Nat.mul_comm,Nat.mul_add_div W,Nat.div_eq_of_lt ho];omega
      have e2:(i*e.n+o) % e.n=o:=by rw[Nat.mul_comm,Nat.mul_add_mod,Nat.mod_eq_of_lt ho]
      rw[e1,e2];have bg:o<(us i).length:=by rw[p1];exact ho
      rw[List.getD_eq_getElem?_getD,List.getElem?_eq_getElem bg];rfl
     ·obtain⟨i,o,rfl,hi,ho,a6⟩:=Z j d Y
      obtain⟨_,_,p3⟩:=ag i hi;have e1:(i*e.n+o) / e.n=i:=by rw[Nat.mul_comm,Nat.mul_add_div W,Nat.div_eq_of_lt ho];omega
      have e2:(i*e.n+o) % e.n=o:=by rw[Nat.mul_comm,Nat.mul_add_mod,Nat.mod_eq_of_lt ho]
      show Rd w _ ((us ((i*e.n+o) / e.n)).getD ((i*e.n+o) % e.n) undef) d;rw[e1,e2];exact p3 o d a6
    refine one ((List.range (len+1)).map y) _ ab ?_;rw[List.map_map];have e3:((List.range (len+1)).map fun i=>e.d (y i)).length=len+1:=by simp
    rw[e3] at hr;exact hr
 | .nil=>by
  refine⟨fun {T fuel vs x} I h=>by simp[Ty.dG] at I,fun {r off fuel vs} I _=>⟨(),fun j c S=>by simp[Ty.cs] at S⟩⟩
 | .cons a b=>by
  have fields:∀{f:Field}{r:List Field}{off fuel:Nat}{vs:List Value},f.offset=off->P.cellsOf f.type=a.n->a.dG P (.inl f.type)=true->b.dG P (.inr (r,off+a.n))=true ->
    (∀(i:Nat)(g:Field),(f::r)[i]?=some g->∃x,DataW.trod enc P w base spare held fuel g.type ((vs.drop g.offset).take (P.cellsOf g.type))=some x) ->
    ∃y:(Ty.cons a b).V,∀j c,((Ty.cons a b).cs y)[j]?=some c->Rd w (jl w) (vs.getD (off+j) undef) c:=by
   intro f r off fuel vs h1 h2 h3 h4 h;obtain⟨x,hx⟩:=h 0 f rfl;obtain⟨y1,k1,k2⟩:=(xz a).1 h3 hx;obtain⟨y2,k3⟩:=(xz b).2 (vs:=vs) (fuel:=fuel) h4 fun i g hg=>h (i+1) g (by simpa using hg)
   refine⟨(y1,y2),fun j c S=>?_⟩;have hlen:=Ty.rf a y1;simp only[Ty.cs] at S;by_cases hja:j<a.n
   ·rw[List.getElem?_append_left (by omega)] at S
    have:=k2 j c S;rw[h1,h2] at this
    have e1:((vs.drop off).take a.n).getD j undef=vs.getD (off+j) undef:=by
     simp only[List.getD_eq_getElem?_getD];rw[List.getElem?_take_of_lt hja,List.getElem?_drop]
    rwa [e1] at this
   ·rw[List.getElem?_append_right (by omega),hlen] at S
    have:=k3 (j-a.n) c S
    rwa [show off+a.n+(j-a.n)=off+j by omega] at this
  refine⟨fun {T fuel vs x} I h=>?_,fun {r off fuel vs} I h=>?_⟩
  ·simp only[Ty.dG] at I
   split at I<;>try(cases I;done)
   rename_i fs hu;simp only[Bool.and_eq_true,decide_eq_true_eq] at I;obtain⟨hn,I⟩:=I;split at I<;>try(cases I;done)
   rename_i f r a8;simp only[Bool.and_eq_true,decide_eq_true_eq] at I;obtain⟨⟨⟨h1,h2⟩,h3⟩,h4⟩:=I;obtain⟨xs,n,_,_,hlen,bT,hf⟩:=DataW.trod_struct hu h
   obtain⟨y,hy⟩:=fields (off:=0) (vs:=vs) (fuel:=n) h1 h2 h3 (by rw[Nat.zero_add];exact h4) fun i g hg=>by
    have ao:fs[i]?=some g:=by rw[<-a8] at hg;simpa using hg
    have:=hf i g ao;rw[this];have hi:i<fs.size:=(Array.getElem?_eq_some_iff.1 ao).1;exact⟨_,List.getElem?_eq_getElem (by omega)⟩
   refine⟨y,by rw[hlen,hn];rfl,fun j c S=>?_⟩;have:=hy j c S
   rwa [Nat.zero_add] at this
  ·cases r with
   | nil=>simp[Ty.dG] at I
   | cons f r =>
    simp only[Ty.dG,Bool.and_eq_true,decide_eq_true_eq] at I;obtain⟨⟨⟨h1,h2⟩,h3⟩,h4⟩:=I;exact fields h1 h2 h3 h4 h
end
end Go.D3
namespace Go.D3
open Go Go.ChangeShapes Go.RowKit
def Ty.args:(t:Ty)->t.V->List D
 | .cons a b,(x,y)=>a.d x::b.args y
 | _,_=>[]
def Ty.fC(P:Program):Ty->List TypeId->Bool
 | .nil,[]=>true
 | .cons a b,T::r=>a.dG P (.inl T)&&P.readableRec T&&decide (T<P.types.size)&&(a.st == (match P.underlying T with | some (.struct _)=>true | _=>false))&&b.fC P r
 | _,_=>false
section
variable{H:Type}{enc:TypeId×Value->H}{P:Program}{w w':World}
theorem abp{A:Nat->Prop}{ty:Ty}{T:TypeId}{v:Value}{base:Nat}(W:ty.dG P (.inl T)=true)(aK:ty.st=(match P.underlying T with | some (.struct _)=>true | _=>false))(Y:Value.okWide P w .any base T v){y:ty.V}
  (hl:v.cells.toList.length=ty.n) (h:∀j c,(ty.cs y)[j]?=some c->Rd w A (v.cells.toList.getD j undef) c):Rd w A v (ty.d y):=by
 have one:ty.st=false->(∀cs,v≠.agg cs)->Rd w A v (ty.d y):=by
  intro S ab;have I:v.cells=#[v]:=by cases v<;>first | rfl | exact absurd rfl (ab _)
  rw[I] at h
  have:∃c,ty.cs y=[c]:=by
   cases ty<;>first | exact⟨_,rfl⟩ | cases S
  obtain⟨c,W⟩:=this;have hd:ty.d y=c:=by unfold Ty.d uS;rw[S,W];rfl
  rw[hd];exact h 0 c (by rw[W];rfl)
 cases S:ty.st with
 | false =>
  refine one S fun cs Z=>?_
  subst Z;rw[S] at aK;unfold Value.okWide at Y;cases ty<;>simp only[Ty.dG] at W<;>first | cases S | skip
  all_goals
   split at W<;>try(cases W;done)
   rename_i hu;rw[hu] at Y;simp[Cell.okWide,Cell.ok,hu] at Y
 | true =>
  have hu:∃fs,P.underlying T=some (.struct fs):=by
   rw[S] at aK;split at aK
   ·exact⟨_,by assumption⟩
   ·cases aK
  obtain⟨fs,hu⟩:=hu;unfold Value.okWide at Y;rw[hu] at Y;obtain⟨cs,rfl,_,_⟩:=Y;have hd:ty.d y=.agg (ty.cs y):=by unfold Ty.d uS;rw[S]
  rw[hd];refine .agg (by rw[Ty.rf];simpa[Value.cells] using hl) fun j c hj=>?_
  have:=h j c hj;simpa[Value.cells] using this
theorem EM{base:Nat}:∀(ty:Ty){S:List TypeId}{vs:List Value}{ds:List (DataW H)}{ps:List MemPlace},ty.fC P S=true->DataW.TrodAll enc P w 0 (fun _=>true) true S vs ds ps ->
  (∀(j:Nat)(t:TypeId)(v:Value),S[j]?=some t->vs[j]?=some v->Value.okWide P w .any base t v) ->
  ∃y:ty.V,vs.length=(ty.args y).length/\∀(j:Nat)(d:D),(ty.args y)[j]?=some d->Rd w (jl w) (vs.getD j undef) d
 | .cons a b,T::S,vs,ds,ps,I,h,hv=>by
  obtain⟨v,ab,d,Z,p,q,rfl,rfl,rfl,h1,h2⟩:=trodAll_cons h;simp only[Ty.fC,Bool.and_eq_true,beq_iff_eq] at I;obtain⟨⟨⟨⟨c1,c2⟩,c3⟩,c4⟩,c5⟩:=I;obtain⟨fuel,hf⟩:=h1;obtain⟨y1,k1,k2⟩:=(xz a).1 c1 hf;obtain⟨y2,k3,k4⟩:=EM b c5 h2 fun j t v' hj Y=>hv (j+1) t v' (by simpa using hj) (by simpa using Y)
  refine⟨(y1,y2),by simp[Ty.args,k3],fun j x W=>?_⟩;cases j with
  | zero =>
   simp[Ty.args] at W;subst W;exact abp c1 c4 (hv 0 T v rfl rfl) k1 k2
  | succ j =>
   simp[Ty.args] at W;simpa using k4 j x W
 | .nil,[],vs,ds,ps,I,h,hv=>by
  obtain⟨rfl,rfl,rfl⟩:=trodAll_nil h;exact⟨(),rfl,fun j x W=>by simp[Ty.args] at W⟩
 | .cons a b,[],vs,ds,ps,I,h,hv=>by simp[Ty.fC] at I
 | .nil,_::_,vs,ds,ps,I,h,hv=>by simp[Ty.fC] at I
 | .int _,S,vs,ds,ps,I,h,hv=>by cases S<;>simp[Ty.fC] at I
 | .bool,S,vs,ds,ps,I,h,hv=>by cases S<;>simp[Ty.fC] at I
 | .str,S,vs,ds,ps,I,h,hv=>by cases S<;>simp[Ty.fC] at I
 | .sl _,S,vs,ds,ps,I,h,hv=>by cases S<;>simp[Ty.fC] at I
theorem EL(Z:laidOutB P=true)(Y:Below w.heap.size w w'){sp:Nat->Bool}:∀(ty:Ty){S:List TypeId}{vs:List Value}{ds:List (DataW H)}{ps:List MemPlace},ty.fC P S=true->DataW.TrodAll enc P w 0 (fun _=>true) true S vs ds ps ->
  (∀p∈ps,p.block<w.heap.size)->(∀p∈ps,sp p.block=true)->DataW.TrodAll enc P w' 0 sp true S vs ds ps
 | .cons a b,T::S,vs,ds,ps,I,h,V,hsp=>by
  obtain⟨v,ad,d,ab,p,q,rfl,rfl,rfl,h1,h2⟩:=trodAll_cons h;simp only[Ty.fC,Bool.and_eq_true,decide_eq_true_eq] at I;obtain⟨⟨⟨⟨c1,c2⟩,c3⟩,c4⟩,c5⟩:=I
  exact trodAll_cons_mk (WideElems.Trod_stays Z c2 c3 h1 (fun x W=>Y.same (V x (List.mem_append_left _ W))) fun x W=>hsp x (List.mem_append_left _ W))
   (EL Z Y b c5 h2 (fun x W=>V x (List.mem_append_right _ W)) fun x W=>hsp x (List.mem_append_right _ W))
 | .nil,[],vs,ds,ps,I,h,V,hsp=>by
  obtain⟨rfl,rfl,rfl⟩:=trodAll_nil h;exact trodAll_mk0
 | .cons a b,[],vs,ds,ps,I,h,_,_=>by simp[Ty.fC] at I
 | .nil,_::_,vs,ds,ps,I,h,_,_=>by simp[Ty.fC] at I
 | .int _,S,vs,ds,ps,I,h,_,_=>by cases S<;>simp[Ty.fC] at I
 | .bool,S,vs,ds,ps,I,h,_,_=>by cases S<;>simp[Ty.fC] at I
 | .str,S,vs,ds,ps,I,h,_,_=>by cases S<;>simp[Ty.fC] at I
 | .sl _,S,vs,ds,ps,I,h,_,_=>by cases S<;>simp[Ty.fC] at I
theorem Q5(I:Below w.heap.size w w')(may:MemPlace->Prop):w.keptBut w' may:=by
 refine⟨I.os,I.output,fun i hi=>?_⟩;rw[I.block i hi];cases w.heap[i]? with
 | none=>rfl
 | some o=>cases o<;>first | exact⟨rfl,rfl,rfl,fun _ _=>rfl⟩ | exact .inr ⟨rfl,rfl⟩ | rfl
theorem Rk[Mode]{f:FuncId}{fn:Func}{s:ChangeSpec}{ty:Ty}{tb:TypeId}{fresh handsOn again:Bool}(I:s.vars=[])(Y:fn.resultTypes=#[tb])(bg:P.underlying tb=some .bool)(hl:laidOutB P=true)
  (ad:ty.fC P fn.params.toList=true) (a1:∀ds:List (DataW H),ds.length=fn.params.size->s.fn H ds={ results:=[.lit (.bool true)],args:=ds }) (hR:∀y:ty.V,aA P f ((ty.args y).map .v) (.bool true))
  {W:World} {base:Nat} {args:Array Value} {ds gs:List (DataW H)} {before:List MemPlace}
  (b0:ik W (jl W)) (bF:∀(j:Nat) t v,fn.params[j]?=some t->args[j]?=some v->Value.okWide P W .any base t v) (hW:DataW.Whole enc P fn.params.toList s.vars false W args.toList ds gs before) :
  Calls P f args W fun e W'=>∃v,e=.returned v/\s.post enc P fn false fresh handsOn again W args v W':=by
 have Z:=hW;obtain⟨p,q,hA,hV,rfl,hz,_⟩:=hW;rw[I] at hV;obtain⟨rfl,rfl⟩:=trodVars_none hV
 have hlen:ds.length=fn.params.size:=by
  have key:∀{ts:List TypeId}{vs:List Value}{ds:List (DataW H)}{ps:List MemPlace},DataW.TrodAll enc P W 0 (fun _=>true) true ts vs ds ps->ds.length=ts.length:=by
   intro ts;induction ts with
   | nil=>intro vs ds ps h;obtain⟨_,rfl,_⟩:=trodAll_nil h;rfl
   | cons t ts ih=>intro vs ds ps h;obtain⟨v,cc,d,b9,a,b,_,rfl,_,_,h2⟩:=trodAll_cons h;simp[ih h2]
  simpa using key hA
 have ab:=Z.lt;simp only[List.append_nil] at ab hz Z;obtain⟨y,b3,b4⟩:=EM (base:=base) ty ad hA fun j t v hj hv=>bF j t v (by simpa using hj) (by simpa using hv)
 refine(hR y W (jl W) args (fun _ _=>False) b0 (fun _ h=>h) (by simpa using b3) (fun j a ha=>?_) (fun _ _ _ _ h=>h.elim) (fun _ _ h=>h.elim)).mono ?_
 ·rw[List.getElem?_map,Option.map_eq_some_iff] at ha
  obtain⟨d,hd,rfl⟩:=ha;refine⟨?_,fun _ h=>h⟩;have:=b4 j d hd;simpa using this
 rintro e W' ⟨v,F,b5,rfl,b2,a8,_,_,_,_,ao,b1,a6,a7⟩;have hv:v=.bool true:=by cases a8;rfl
 subst hv;have hb:Below W.heap.size W W':=⟨b1,a6,a7.1,b2,fun k hk=>ao k hk fun _ h=>h⟩;refine⟨_,rfl,?_⟩;have hold:∀x∈p,(fun b=>decide (b<W.heap.size)) x.block=true:=fun x hx=>by simpa using ab x hx
 have ax:s.fn H (ds++[])={ results:=[.lit (.bool true)],args:=ds }:=by rw[List.append_nil];exact a1 ds hlen
 have ag:(Value.bool true).resultList fn.resultTypes.size=[.bool true]:=by rw[Y];rfl
 have hr:∀(b:Nat)(sp:Nat->Bool)(hd:Bool),DataW.TrodAll enc P W' b sp hd fn.resultTypes.toList ((Value.bool true).resultList fn.resultTypes.size) [.lit (.bool true)] []:=fun b sp hd=>by
  rw[ag,Y];exact trodAll_cons_mk (shut_bool bg _) trodAll_mk0
 have S:∀sp:Nat->Bool,(∀x∈p,sp x.block=true)->DataW.TrodAll enc P W' 0 sp true fn.params.toList args.toList ds p:=fun sp h=>EL hl hb ty ad hA ab h
 refine⟨ds,[],p,[],p,[],by rw[I] at Z|-;exact Z,?_,?_,?_,Q5 hb _,fun _=>⟨?_,[.lit (.bool true)]++ds,[],p,?_,fun _ h _=>h⟩⟩
 ·rw[ax];exact hr _ _ _
 ·rw[ax];exact S _ hold
 ·rw[ax,I];rfl
 ·exact ok_one Y rfl (okWide_bool_mk bg _)
 ·refine⟨p,[],?_,by rw[I];rfl,by simp,?_,fun h=>by cases h⟩
  ·have:=trodAll_append (S (fun _=>true) fun _ _=>rfl) (hr 0 (fun _=>true) true)
   simpa using this
  ·intro b off hx
   have bT:=ab _ hx;have:=hz b off hx
   have e:W'.frozen? ⟨b,off,none⟩=W.frozen? ⟨b,off,none⟩:=by
    unfold World.frozen?;rw[hb.block b bT]
   rw[e];exact this
end
end Go.D3
