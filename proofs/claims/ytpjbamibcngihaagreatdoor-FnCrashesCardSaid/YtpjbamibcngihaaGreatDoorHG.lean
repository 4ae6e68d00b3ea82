/- FROM A LAW's CONTRACT TO WHAT A ROW ASKS. Generic. -/
import Derived.Test.YtpjbamibcngihaaGreatDoorHF
import Derived.ChangeArms
import Derived.DataReads
import Derived.DataElems
import Derived.OpenShut
import Derived.JoinedCond
import Derived.JoinedOf
import Derived.Carry
import Derived.ChangeSame
namespace Go.D3
open Go
def jx(tr:List Nat)(as gs:List D):List D :=
 (tr.map fun t=>match as[t]? with | some a=>a.ax (fun i=>i+tr.length) | none=>.dead)++dF (fun i=>i+tr.length) gs
inductive RM where
 | tree
 | refs
 | qC
def lC(m:RM)(l:List D)(K:D->St->Prop)(st:St):Prop :=
 match m with
 | .tree=>cV l (fun l st=>K (aV (kC l)) st) st
 | .refs=>(kC l).c8=true/\K (kC l) st
 | .qC=>jX (kC l) K st
def nO(n:Nat):Nat->List D->St->Prop
 | _,[],_=>True
 | i,g::r,st=>st.cont (i+n)=g.ax (fun i=>i+n)/\nO n (i+1) r st
def ly(rs:List RS)(m:RM)(rc:D)(n:Nat)(gs gs':List D)(env:List D):Prop :=
 env.length=gs.length+n/\gs'.length=gs.length/\cX (iW ⟨env,0,[]⟩ rs) fun p=>p.1/\lC m p.2 (fun c st=>c=rc.ax (fun i=>i+n)/\nO n 0 gs' st) ⟨env,0,[]⟩
def kz(rs:List RS)(m:RM)(Q:D->List D->Prop)(n:Nat)(gs:List D)(env:List D):Prop :=
 env.length=gs.length+n/\cX (iW ⟨env,0,[]⟩ rs) fun p=>p.1/\lC m p.2 (fun c st=>∃rc gs',Q rc gs'/\gs'.length=gs.length/\c=rc.ax (fun i=>i+n)/\nO n 0 gs' st) ⟨env,0,[]⟩
theorem T8{m:RM}{l:List D}{K K':D->St->Prop}{st:St}(h:lC m l K st)(hK:∀c st,K c st->K' c st):lC m l K' st:=by
 cases m with
 | tree=>exact vY l (fun _ _ h=>hK _ _ h) h
 | refs=>exact⟨h.1,hK _ _ h.2⟩
 | qC =>
  simp only[lC,jX] at h|-
  split at h
  ·exact⟨h.1,h.2.1,hK _ _ h.2.2⟩
  ·exact h.elim
theorem SX{rs:List RS}{m:RM}{rc:D}{n:Nat}{gs gs' env:List D}(h:ly rs m rc n gs gs' env):kz rs m (fun r g=>r=rc/\g=gs') n gs env:=by
 obtain⟨h1,h2,h3⟩:=h;refine⟨h1,?_⟩;cases ho:iW ⟨env,0,[]⟩ rs with
 | none=>rw[ho] at h3;exact h3
 | some p=>rw[ho] at h3;exact⟨h3.1,T8 h3.2 fun c st hh=>⟨rc,gs',⟨rfl,rfl⟩,h2,hh⟩⟩
def jJ:List D->Bool
 | []=>true
 | a::r=>a.c8&&jJ r
theorem Ge:∀{l:List D},jJ l=true->∀{i:Nat}{a:D},l[i]?=some a->a.c8=true
 | [],_,i,a,h=>by simp at h
 | b::r,h,0,a,ha=>by simp only[jJ,Bool.and_eq_true] at h;simp at ha;subst ha;exact h.1
 | b::r,h,i+1,a,ha=>by simp only[jJ,Bool.and_eq_true] at h;simp at ha;exact Ge h.2 ha
theorem EG{n:Nat}{st:St}:∀{gs:List D}{i:Nat},nO n i gs st->∀j,j<gs.length->st.cont (i+j+n)=(nth gs j).ax (fun i=>i+n)
 | [],_,_,j,h=>by simp at h
 | g::r,i,⟨h1,h2⟩,0,_=>h1
 | g::r,i,⟨h1,h2⟩,j+1,h=>by
  have:=EG h2 j (by simpa using h);rw[show i+1+j+n=i+(j+1)+n by omega] at this;exact this
theorem qH(env:List D)(k:Nat):(⟨env,0,[]⟩:St).cont k=if k<1000 then nth env k else .dead:=by
 show(if k<1000 then nth env k else if k<1000+0 then nth [] _ else D.dead)=_;by_cases hk:k<1000
 ·rw[if_pos hk,if_pos hk]
 ·rw[if_neg hk,if_neg hk,if_neg (by omega)]
theorem FX:∀{a b:List D}{k:Nat},k<a.length->nth (a++b) k=nth a k
 | [],_,k,h=>by simp at h
 | x::a,b,0,_=>rfl
 | x::a,b,k+1,h=>FX (a:=a) (by simpa using h)
theorem FY:∀{a b:List D}{k:Nat},nth (a++b) (k+a.length)=nth b k
 | [],_,k=>rfl
 | x::a,b,k=>by
  show nth (x::(a++b)) (k+a.length+1)=_;exact FY (a:=a)
theorem Hw{P:Program}{f:FuncId}{fn:Func}{c:C}{tr:List Nat}{as gs:List D}{env:List D}{Q:D->List D->Prop}{rs:List RS}(m:RM)(O:List D->Prop)(hO:∀env,O env->kz rs m Q tr.length gs env)(hf:P.funcs[f]?=some fn)(hnm:(fn.name == "runtime.NumGoroutine")=false)
  (hok:kV P fn tr c as.length rs=true) (ha:jJ as=true) (hl:as.length<500/\gs.length<400) (henv:env=jx tr as gs) (hv:bF P c O ⟨fun _ _=>False,O⟩ env):bM P f as gs Q:=by
 subst henv;simp only[kV,Bool.and_eq_true,decide_eq_true_eq] at hok;obtain⟨⟨⟨hfit,htr⟩,hna⟩,hres⟩:=hok;cases hb:fn.body with
 | none=>rw[hb] at hfit;cases hfit
 | some code =>
 rw[hb] at hfit;simp only at hfit;refine⟨by simp only[ij,hf,hb,hnm,Option.isSome_some,Bool.not_false,Bool.and_self],?_⟩;intro w A vs gv Fs hgl hA hvs hpre hgpre hgemp hFd hFs;have htr':=htr;simp only[kx,Bool.and_eq_true,List.all_eq_true,decide_eq_true_eq] at htr';obtain⟨⟨hnd,htlt⟩,hfew⟩:=htr';generalize hσ:(fun i=>i+tr.length)=σ;have hσi:∀i,σ i=i+tr.length:=fun i=>by rw[<-hσ]
 have hinj:∀i j,σ i=σ j->i=j:=fun i j h=>by rw[hσi,hσi] at h;omega
 let tm:Array Value:=vs++Array.replicate (fn.ntmps-vs.size) undef;have htm:tm.size=fn.ntmps:=by simp only[tm,Array.size_append,Array.size_replicate];omega
 have hgetv:∀i,i<as.length->tm.getD i undef=vs.getD i undef:=by
  intro i hi;simp only[tm,Array.getD_eq_getD_getElem?];rw[Array.getElem?_append_left (by omega)]
 let cx:Ctx:=⟨w,fun b=>∃j,Fs j b,A,fun k=>gv (k-tr.length),fun b hb=>⟨hA b hb,fun⟨j,hj⟩=>(hFs j b hj).2 hb⟩,hgl,[]⟩;let vl:Nat->Value:=fun k=>match tr[k]? with | some t=>tm.getD t undef | none=>gv (k-tr.length)
 let fp:Nat->Nat->Prop:=fun k b=>tr.length<=k/\k<tr.length+gs.length/\Fs (k-tr.length) b
 generalize hct0:(⟨jx tr as gs,0,[]⟩:St).cont=ct;have hlen0:(tr.map fun t=>match as[t]? with | some a=>a.ax (fun i=>i+tr.length) | none=>.dead).length=tr.length:=by simp
 have hgh0:∀k,tr.length<=k->vl k=gv (k-tr.length):=fun k hk=>by
  show(match tr[k]? with | some t=>tm.getD t undef | none=>gv (k-tr.length))=_;rw[List.getElem?_eq_none hk]
 have hctg:∀i,i<gs.length->ct (σ i)=(nth gs i).ax σ:=fun i hi=>by
  rw[<-hct0,qH,hσi,if_pos (by omega)];unfold jx;have:=FY (a:=tr.map fun t=>match as[t]? with | some a=>a.ax (fun i=>i+tr.length) | none=>D.dead) (b:=dF (fun i=>i+tr.length) gs) (k:=i);rw[hlen0] at this;rw[this,FZ,hσ]
 have hcto:∀k,tr.length+gs.length<=k->ct k=.dead:=fun k hk=>by
  rw[<-hct0,qH];split
  ·exact gj _ _ (by unfold jx;simp[zf];omega)
  ·rfl
 have hctp:∀k,k<tr.length->ct k=.dead\/∃t a,tr[k]?=some t/\as[t]?=some a/\ct k=a.ax σ:=fun k hk=>by
  rw[<-hct0,qH,if_pos (by omega)];unfold jx;rw[FX (by rw[hlen0];exact hk),rj,List.getElem?_map,List.getElem?_eq_getElem hk];simp only[Option.map_some,Option.getD_some];cases ht:as[tr[k]]? with
  | none=>exact .inl rfl
  | some a=>exact .inr ⟨tr[k],a,rfl,ht,by rw[hσ]⟩
 have hctne:∀i,nth gs i≠.dead->ct (σ i)=(nth gs i).ax σ:=fun i hi=>hctg i (Classical.byContradiction fun hh=>hi (gj gs i (by omega)))
 have hvlg:∀i,vl (σ i)=gv i:=fun i=>by rw[hσi,hgh0 _ (by omega),Nat.add_sub_cancel]
 have hstA:∀b,A b->aq cx fp (fun _=>False) w b:=fun b hb=>⟨⟨hA b hb,fun _=>hb⟩,fun h=>h,fun k hk=>(hFs _ b hk.2.2).2 hb⟩
 have htri:=uk hnd
 have h0:Bm cx fn.ntmps tr (jx tr as gs) { tmps:=tm,defers:=[] } w:=by
  refine⟨⟨vl,fp,fun _=>False,?_,fun k t hk _=>by simp only[vl,hk],fun i t hi _=>by simp at hi,fun k h1 _=>hgh0 k h1⟩,rfl,fun j hj=>by simp at hj,htm,rfl⟩;rw[hct0];refine⟨fun k=>?_,fun i j hij b hi hj=>hFd _ _ b (by have:=hi.1;have:=hj.1;omega) hi.2.2 hj.2.2,fun _ _ _ h=>h,fun k hk b hb=>?_,fun k b hb=>⟨(hFs _ b hb.2.2).1,.inl ⟨_,hb.2.2⟩⟩,fun _ h=>h.elim,Nat.le_refl _,fun _ _ _=>rfl,rfl,rfl,rfl⟩
  ·by_cases hk:k<tr.length
   ·rcases hctp k hk with hc | ⟨t,a,h1,h2,hc⟩
    ·rw[hc];exact Pl.dead
    ·rw[hc]
     have hlt:=(List.getElem?_eq_some_iff.1 h2).1;have hao:=Ge ha h2;rw[pO (yk hao)]
     have hv:vl k=vs.getD t undef:=by
      show(match tr[k]? with | some t=>tm.getD t undef | none=>_)=_;rw[h1];exact hgetv t hlt
     rw[hv];have:=(hpre t a h2).ax (Q:=fun _=>True) (σ:=σ) (R':=aj w ct vl) (bq (fun _=>trivial) _) fun v d _ hr=>hr.ax hctne fun i _=>hvlg i
     exact this.mono (Q:=fun _=>True) hstA (fun _ _=>rfl) (bq (fun _=>trivial) _) fun _ _ _ h=>h
   ·by_cases hk2:k<tr.length+gs.length
    ·obtain⟨i,rfl⟩:∃i,k=σ i:=⟨k-tr.length,by rw[hσi];omega⟩
     rw[hctg i (by rw[hσi] at hk2;omega),hvlg];have:=(hgpre i).ax (Q:=fun _=>True) (σ:=σ) (R':=aj w ct vl) (bq (fun _=>trivial) _) fun v d _ hr=>hr.ax hctne fun i _=>hvlg i
     exact this.mono (Q:=fun _=>True) hstA (fun _ _=>rfl) (fun _ _=>rfl) (fun b hb=>⟨by omega,hk2,by rw[hσi,Nat.add_sub_cancel];exact hb⟩) (bq (fun _=>trivial) _) fun _ _ _ h=>h
    ·rw[hcto k (by omega)];exact Pl.dead
  ·obtain⟨h1,h2,h3⟩:=hb
   have e:k=σ (k-tr.length):=by rw[hσi];omega
   rw[e,hctg _ (by omega),nR] at hk;exact hgemp _ hk b h3
 have fin:∀a' w' env,O env->Bm cx fn.ntmps tr env a' w' ->
   a'.defers=[]/\∃v,(results fn a'.tmps).run P w'=.ok v w'/\∃(rc:D)(gs':List D)(u:Value)(F:Nat->Prop)(gv':Nat->Value)(Fs':Nat->Nat->Prop),Q rc gs'/\Ending.returned v=.returned u/\w.heap.size<=w'.heap.size /\
    aK w' (fun b=>A b\/(w.heap.size<=b/\b<w'.heap.size/\¬F b/\∀j,¬Fs' j b)) (aj w' (nth gs') gv') u F rc/\(rc.isObj=false->∀b,¬F b) /\
    (∀k,aK w' (fun b=>A b\/(w.heap.size<=b/\b<w'.heap.size/\¬F b/\∀j,¬Fs' j b)) (aj w' (nth gs') gv') (gv' k) (Fs' k) (nth gs' k))/\(∀k,(nth gs' k).isObj=false->∀b,¬Fs' k b) /\
    (∀k,nth gs k≠.dead->gv' k=gv k) /\
    (∀b,F b->b<w'.heap.size/\(w.heap.size<=b\/∃j,Fs j b)/\∀j,¬Fs' j b)/\(∀j b,Fs' j b->b<w'.heap.size/\(w.heap.size<=b\/∃j,Fs j b))/\(∀i j b,i≠j->Fs' i b->¬Fs' j b) /\
    (∀b,b<w.heap.size->(∀j,¬Fs j b)->w'.heap[b]?=w.heap[b]?)/\w'.os=w.os/\w'.tape=w.tape/\w'.output=w.output:=by
  intro a' w' env ho hB;obtain⟨hel,ho⟩:=hO env ho;cases cW:iW ⟨env,0,[]⟩ rs with
  | none=>rw[cW] at ho;exact ho.elim
  | some p =>
  rw[cW] at ho;obtain⟨hs,hab⟩:=ho;obtain⟨vl',fp',G',hp,htr2,_,hgh⟩:=hB.ex;obtain⟨us,hrun,hlen,hpl⟩:=yI (P:=P) hp (fun j t hj=>htr2 j t hj (by simp)) fn.results.toList rs hres cW hs;have hrun':=zk hrun
  have hdd0:∀k,tr.length+gs.length<=k->(⟨env,0,[]⟩:St).cont k=.dead:=fun k hk=>by
   rw[qH];split
   ·exact gj _ _ (by omega)
   ·rfl
  have key:∃(c:D)(st2:St)(fp2:Nat->Nat->Prop)(G2 F:Nat->Prop),(∃rc gs',Q rc gs'/\gs'.length=gs.length/\c=rc.ax (fun i=>i+tr.length)/\nO tr.length 0 gs' st2)/\Hp cx st2.cont vl' fp2 G2 w'/\aK w' (aq cx fp2 G2 w') (aj w' st2.cont vl') (pV us) F c /\
    (c.isObj=false->∀b,¬F b)/\(∀b,F b->G2 b)/\∀k,tr.length+gs.length<=k->st2.cont k=.dead:=by
   have hplR:Pl w' (aq cx fp' G' w') (aj w' (⟨env,0,[]⟩:St).cont vl') (pV us) (kC p.2):=by
    match us,p.2,hlen,hpl with
    | [],[],_,_=>exact .au rfl (fun j x hx=>by simp at hx)
    | [v],[x],_,hpl=>exact hpl 0 x rfl
    | a::b::r,x::y::l,hl,hpl=>exact .au (by simpa using hl) hpl
   cases m with
   | tree =>
    obtain⟨l',st',fp2,G2,Ls,hK,htk,hll,hown,hLd,_⟩:=je (A:=aq cx fp' G' w') _ hab hp hB.wf (fun _ h=>h) hpl;let F:Nat->Prop:=fun b=>∃j,Ls j b
    have hownR:an w' (aq cx fp2 G2 w') (pV us) (kC l') F:=by
     have hul:us.length=l'.length:=by rw[hlen,hll]
     match us,l',hul,hown,hLd with
     | [],[],_,_,_=>exact an.au (fun _ _=>False) rfl (fun j x hx=>by simp at hx) (fun _ _ h=>h.elim) (fun _ _ _ _ h=>h.elim)
     | [v],[x],_,hown,_ =>
      have:=(hown 0 x rfl).1;exact this.mono (fun _ h=>h) (fun _ _=>rfl) (fun _ _=>rfl) fun b hb=>⟨0,hb⟩
     | a::b::r,x::y::l,hul,hown,hLd =>
      refine an.au (fun j b=>Ls j b) (by simpa using hul) (fun j z hz=>((hown j z hz).1).mono (fun _ h=>h) (fun _ _=>rfl) (fun _ _=>rfl) fun _ h=>h) (fun j b hb=>⟨j,hb⟩) (fun i j b hij hi hj=>hLd i j b hij hi hj)
    obtain⟨c1,c2⟩:=nG (R:=aj w' st'.cont vl') hownR;by_cases hob:(aV (kC l')).isObj=true
    ·exact⟨_,st',fp2,G2,F,hK,htk.hp,c1,fun hh=>(by rw[hob] at hh;cases hh),fun b ⟨j,hb⟩=>(htk.hF b ⟨j,hb⟩).1,fun k hk=>htk.dd k (hdd0 k hk)⟩
    ·exact⟨_,st',fp2,G2,fun _=>False,hK,htk.hp,c2 (by simpa using hob),fun _ _ h=>h,fun _ h=>h.elim,fun k hk=>htk.dd k (hdd0 k hk)⟩
   | refs =>
    exact⟨_,_,fp',G',fun _=>False,hab.2,hp,(pO hab.1).2 hplR,fun _ _ h=>h,fun _ h=>h.elim,hdd0⟩
   | qC =>
    simp only[lC] at hab;obtain⟨c,st2,fp2,G2,F,h1,h2,h3,h4,h5,h6,_,_⟩:=Dc hp hB.wf hplR hab;exact⟨c,st2,fp2,G2,F,h1,h2,h3,h4,h5,fun k hk=>h6 k (hdd0 k hk)⟩
  obtain⟨c,st2,fp2,G2,F,⟨rc,gs',hQ,hgl,hc,hgp⟩,hp2,hcok,hce,hFG,hdd⟩:=key;rw[hσ] at hc;subst hc
  have hct2:∀k,st2.cont (σ k)=(nth gs' k).ax σ:=fun k=>by
   by_cases hk:k<gs'.length
   ·have:=EG hgp k hk
    rw[Nat.zero_add,<-hσi k,hσ] at this;exact this
   ·rw[hdd _ (by rw[hσi];omega),gj gs' k (by omega)];rfl
  have hvl2:∀k,nth gs' k≠.dead->vl' (σ k)=gv k:=fun k hk=>by
   have hkl:k<gs'.length:=Classical.byContradiction fun hh=>hk (gj gs' k (by omega))
   rw[hgh _ (by rw[hσi];omega) (by rw[hσi];omega)];show gv (σ k-tr.length)=_;rw[hσi,Nat.add_sub_cancel]
  let Fs':Nat->Nat->Prop:=fun k b=>k<gs'.length/\fp2 (σ k) b
  have aO:∀b,aq cx fp2 G2 w' b->A b\/(w.heap.size<=b/\b<w'.heap.size/\¬F b/\∀j,¬Fs' j b):=by
   rintro b ⟨⟨q1,q2⟩,q3,q4⟩;by_cases hbo:b<w.heap.size
   ·exact .inl (q2 hbo)
   ·exact .inr ⟨by omega,q1,fun hF=>q3 (hFG b hF),fun j hj=>q4 _ hj.2⟩
  refine⟨hB.defers,_,hrun',rc,gs',_,F,gv,Fs',hQ,rfl,hp2.size,?_,fun hh=>hce (by rw[nR];exact hh),fun k=>?_,fun k hk b hb=>?_,fun _ _=>rfl,fun b hb=>?_,fun j b hb=>?_,fun i j b hij hi hj=>?_,fun b hb hn=>hp2.same b hb fun⟨j,hj⟩=>hn j hj,hp2.os,hp2.tape,hp2.output⟩
  ·exact(hcok.lI hinj hct2 hvl2).mono (Q:=fun _=>True) aO (fun _ _=>rfl) (fun _ _=>rfl) (fun _ h=>h) (bq (fun _=>trivial) _) fun _ _ _ h=>h
  ·by_cases hkd:nth gs' k=.dead
   ·rw[hkd];exact Pl.dead
   ·have hkl:k<gs'.length:=Classical.byContradiction fun hh=>hkd (gj gs' k (by omega))
    have:=hp2.ok (σ k);rw[hct2 k,hvl2 k hkd] at this;exact(this.lI hinj hct2 hvl2).mono (Q:=fun _=>True) aO (fun _ _=>rfl) (fun _ _=>rfl) (fun b hb=>⟨hkl,hb⟩) (bq (fun _=>trivial) _) fun _ _ _ h=>h
  ·exact hp2.emp _ (by rw[hct2 k,nR];exact hk) b hb.2
  ·obtain⟨q1,q2⟩:=hp2.c7 b (hFG b hb)
   exact⟨q1,q2.symm,fun j hj=>hp2.cK _ b hj.2 (hFG b hb)⟩
  ·obtain⟨q1,q2⟩:=hp2.lt _ b hb.2
   exact⟨q1,q2.symm⟩
  ·exact hp2.b8 _ _ (fun he=>hij (hinj _ _ he)) b hi.2 hj.2
 refine calls_of_wp hf hb ?_;exact gQ htr c code hfit hv h0 (fun a w env h1 h2=>fin a w env h1 h2) (fun _ _ _ _ h _=>h.elim) (fun a w env h1 h2=>fin a w env h1 h2)
theorem Ud{P:Program}{f:FuncId}{fn:Func}{c:C}{tr:List Nat}{as gs gs':List D}{env:List D}{rc:D}{rs:List RS}(m:RM)(hf:P.funcs[f]?=some fn)(hnm:(fn.name == "runtime.NumGoroutine")=false)
  (hok:kV P fn tr c as.length rs=true) (ha:jJ as=true) (hl:as.length<500/\gs.length<400) (henv:env=jx tr as gs) (hv:bF P c (ly rs m rc tr.length gs gs') ⟨fun _ _=>False,ly rs m rc tr.length gs gs'⟩ env):fV P f as gs rc gs' :=
 Hw m (ly rs m rc tr.length gs gs') (fun _ h=>SX h) hf hnm hok ha hl henv hv
theorem zm{P:Program}{f:FuncId}{fn:Func}{c:C}{tr:List Nat}{as gs:List D}{env:List D}{Q:D->List D->Prop}{rs:List RS}(m:RM)(hf:P.funcs[f]?=some fn)(hnm:(fn.name == "runtime.NumGoroutine")=false)
  (hok:kV P fn tr c as.length rs=true) (ha:jJ as=true) (hl:as.length<500/\gs.length<400) (henv:env=jx tr as gs) (hv:bF P c (kz rs m Q tr.length gs) ⟨fun _ _=>False,kz rs m Q tr.length gs⟩ env):bM P f as gs Q :=
 Hw m (kz rs m Q tr.length gs) (fun _ h=>h) hf hnm hok ha hl henv hv
end Go.D3
namespace Go.D3
open Go
section
variable{P:Program}{K:St->Prop}{st st':St}{env env':List D}
@[congr] theorem Ym{rs:List RS}{res:D}{g:Nat}{as:List Arg}(h:env=env'):out rs res g as env=out rs res g as env':=by rw[h]
end
theorem M9{g:Nat}{st:St}:iQ g [] st=True:=rfl
theorem Nb{g:Nat}{x:D}{r:List Arg}{st:St}:iQ g (.v x::r) st=iQ (g+1) r st:=rfl
theorem Na{g:Nat}{x:D}{r:List Arg}{st:St}:iQ g (.own x::r) st=iQ (g+1) r st:=rfl
theorem M8{g:Nat}{x y:D}{r:List Arg}{st:St}:iQ g (.io x y::r) st=((st.cont g=y/\y.refs eP)/\iQ (g+1) r st):=rfl
theorem L2{g:Nat}{x:D}:Arg.c0 g (.v x)=x:=rfl
theorem L0{g:Nat}{x:D}:Arg.c0 g (.own x)=.o x:=rfl
theorem LZ{g:Nat}{x y:D}:Arg.c0 g (.io x y)=cu g x:=rfl
theorem MU{x:D}:Arg.g0 (.v x)=.dead:=rfl
theorem MT{x:D}:Arg.g0 (.own x)=.dead:=rfl
theorem MS{x y:D}:Arg.g0 (.io x y)=x:=rfl
theorem Ny{x:D}:Arg.qV (.v x)=false:=rfl
theorem Nw{x:D}:Arg.qV (.own x)=false:=rfl
theorem Nv{x y:D}:Arg.qV (.io x y)=true:=rfl
attribute [go_sem] eJ.eq_1 out.eq_1 iW.eq_1 iW.eq_2 oi.eq_1 oi.eq_2 oi.eq_3 kC.eq_1 M9 Nb Na M8 L2 L0 LZ MU MT MS Ny Nw Nv
 List.map_cons List.map_nil List.getElem?_cons_zero List.getElem?_cons_succ List.getElem?_nil List.any_cons List.any_nil Bool.or_false Bool.false_or Bool.or_true Bool.true_or eU.eq_1 eU.eq_2
theorem Td{c a:Bool}:mI c a false=(c&&a):=by cases c<;>cases a<;>rfl
theorem Te{c b:Bool}:mI c true b=(c || b):=by cases c<;>cases b<;>rfl
theorem WW:Int.toNat 0=0:=rfl
theorem WV:Int.toNat 1=1:=rfl
attribute [go_sem] Td Te ge_iff_le gt_iff_lt Int.toNat_natCast Int.ofNat_lt Int.ofNat_le Int.natCast_nonneg D.bool.injEq WW WV
def En[K:KH](l ys:List D)(res:D)(st:St):Prop:=gB l ys (fun st=>K.k (st.push (aV res))) st
@[congr] theorem X8{l ys:List D}{res:D}{K:KH}{st st':St}(h:st=st'):En l ys res st=En l ys res st':=by rw[h]
mutual
def D.du:D->Prop
 | .int k n=>k.has n
 | .slice _ l=>l.length<=maxLen/\gu l
 | .agg l=>gu l
 | .au l=>gu l
 | .ptr l=>gu l
 | .str s=>s.length<=maxLen
 | _=>True
def gu:List D->Prop
 | []=>True
 | x::r=>x.du/\gu r
end
theorem qj:∀{l:List D},gu l↔∀x∈l,x.du
 | []=>by simp[gu]
 | x::r=>by simp only[gu,qj (l:=r),List.mem_cons,forall_eq_or_imp]
theorem Xq{d:D}(h:∀c∈d.cells,c.du):d.du:=by
 cases d
 case agg l=>exact qj.2 h
 all_goals exact h _ (by simp[D.cells])
theorem Rd.du{w:World}{A:Nat->Prop}{v:Value}{d:D}(h:Rd w A v d):d.du:=by
 induction h with
 | int h=>exact h
 | str h=>exact h
 | nil=>exact⟨Nat.zero_le _,trivial⟩
 | empty h=>exact⟨Nat.zero_le _,trivial⟩
 | @slice z L b off cap sz hA hc hm hz hzz hsz vs hcells hr ih =>
  refine⟨Nat.le_trans hc hm,qj.2 fun x hx=>Xq fun c hcx=>?_⟩;obtain⟨i,hi,rfl⟩:=List.getElem_of_mem hx;obtain⟨o,ho,rfl⟩:=List.getElem_of_mem hcx;have hl:=hsz L[i] hx;have:=Dt (z:=z) (L:=L) (i:=i) (off:=o) hzz hsz hi (by omega);have h2:=ih _ _ this;simp only[D.dL,List.getD_eq_getElem?_getD,List.getElem?_eq_getElem hi,Option.getD_some,List.getElem?_eq_getElem ho] at h2;exact h2
 | agg hs hr ih | au hs hr ih =>
  exact qj.2 fun x hx=>by obtain⟨i,hi,rfl⟩:=List.getElem_of_mem hx;exact ih i _ (List.getElem?_eq_getElem hi)
 | ptr hA vs hc hr ih=>exact qj.2 fun x hx=>by obtain⟨i,hi,rfl⟩:=List.getElem_of_mem hx;exact ih i _ (List.getElem?_eq_getElem hi)
 | _=>trivial
def dc:List Arg->Prop
 | []=>True
 | .v x::r=>x.du/\dc r
 | .own x::r=>x.du/\dc r
 | .io (.o x) _::r=>x.du/\dc r
 | .io _ _::r=>dc r
theorem C3:∀{as:List Arg},(∀(j:Nat)(x y:D),as[j]?=some (.v x)\/as[j]?=some (.own x)\/as[j]?=some (.io (.o x) y)->x.du)->dc as
 | [],_=>trivial
 | a::r,h=>by
  have hr:dc r:=C3 fun j x y hx=>h (j+1) x y (by simpa using hx)
  cases a with
  | v x=>exact⟨h 0 x .dead (.inl rfl),hr⟩
  | own x=>exact⟨h 0 x .dead (.inr (.inl rfl)),hr⟩
  | io x y=>cases x<;>first | exact hr | exact⟨h 0 _ y (.inr (.inr rfl)),hr⟩
theorem ei{P:Program}{f:FuncId}{as:List Arg}{res:D}(h:dc as->aC P f as res):aC P f as res:=by
 intro w A vs Fs h0 h1 h2 h3 h4 h5;refine h (C3 fun j x y hx=>?_) w A vs Fs h0 h1 h2 h3 h4 h5;rcases hx with hx | hx | hx
 ·exact(h3 j _ hx).1.du
 ·exact((show an _ _ _ _ _ from h3 j _ hx).rd (A':=fun _=>True) (fun _ _=>trivial) fun _ _=>trivial).du
 ·exact((show an _ _ _ _ _ from h3 j _ hx).rd (A':=fun _=>True) (fun _ _=>trivial) fun _ _=>trivial).du
theorem eW{α:Type}{f:α->D}{d:α}{l:List α}:(ae f d l).du=(l.length<=maxLen/\∀x∈l,(f x).du):=by
 simp only[ae,D.du,List.length_map,qj,List.mem_map];exact propext ⟨fun h=>⟨h.1,fun x hx=>h.2 _ ⟨x,hx,rfl⟩⟩,fun h=>⟨h.1,by rintro _ ⟨x,hx,rfl⟩;exact h.2 x hx⟩⟩
theorem aM{i n:Nat}(h:i<n)(hn:n<=maxLen):IntKind.i64.wrap ((i:Int)+1)=((i+1:Nat):Int):=by
 have:=iH (nQ (n:=i+1) (by omega));simpa using this
theorem wrap_small{n:Int}(h1 : -4611686018427387904<=n)(h2:n<=4611686018427387904):IntKind.i64.wrap n=n :=
 iH ⟨by simp[IntKind.min,IntKind.signed,IntKind.bits];omega,by simp[IntKind.max,IntKind.signed,IntKind.bits];omega⟩
theorem Cq{i:Nat}(h:i<=4611686018427387900):IntKind.i64.wrap ((i:Int)+1)=((i+1:Nat):Int):=by
 rw[wrap_small (by omega) (by omega)];omega
section
variable{α:Type}{l:List α}{p:α->Bool}{d:α}{i:Nat}
theorem aS(h:i<l.length)(d:α):l.getD i d=l[i]:=by rw[List.getD_eq_getElem?_getD,List.getElem?_eq_getElem h];rfl
theorem cH(h:i<l.length)(d:α):l.take (i+1)=l.take i++[l.getD i d]:=by
 rw[List.take_succ_eq_append_getElem h,aS h]
theorem CQ(h:i<l.length)(ha:(l.take i).all p=true)(hp:p (l.getD i d)=true):(l.take (i+1)).all p=true:=by
 rw[cH h d,List.all_append,ha];simp;simpa using hp
theorem CR(h:i<l.length)(hp:p (l.getD i d)=false):l.all p=false:=by
 rw[List.all_eq_false];exact⟨l[i],List.getElem_mem h,by rw[aS h] at hp;simp[hp]⟩
theorem CN(h:l.length<=i)(ha:(l.take i).all p=true):l.all p=true:=by
 rwa [List.take_of_length_le h] at ha
end
def sb(left:Int)(n:Nat):Int:=if(n:Int)<=left then left-n else -1
def fM{α:Type}(cost:α->Nat)(l:List α):Nat:=l.length+(l.map cost).sum
theorem WC{α:Type}{cost:α->Nat}{l:List α}{i:Nat}(h:i<l.length)(d:α):((l.take (i+1)).map cost).sum=((l.take i).map cost).sum+cost (l.getD i d):=by
 rw[cH h d];simp
theorem WD{α:Type}{cost:α->Nat}{l:List α}(i:Nat):((l.take i).map cost).sum<=(l.map cost).sum:=by
 conv=>rhs;rw[<-List.take_append_drop i l]
 rw[List.map_append,List.sum_append];omega
theorem kr{α:Type}{f:α->D}{d:α}(h:∀x,(f x).ba=true)(l:List α):(ae f d l).ba=true:=OU h
theorem bZ(l:List Int):(ints l).ba=true:=kr (fun _=>rfl) l
theorem jH(l:List (List UInt8)):(dY l).ba=true:=kr (fun _=>rfl) l
theorem ff(l:List (List Int)):(aI l).ba=true:=kr bZ l
def jZ{α:Type}(l:List α)(z:α)(i:Nat):List α:=l.take i++List.replicate (l.length-i) z
section
variable{α:Type}{l:List α}{z d:α}{i:Nat}{cost:α->Nat}
theorem DI(h:i<l.length)(d:α):cost (l.getD i d)<=fM cost l:=by
 have h1:=WC (cost:=cost) h d;have h2:=WD (cost:=cost) (l:=l) (i+1);unfold fM;omega
end
theorem VW{α:Type}{f:α->D}{d:α}{l:List α}{o:Nat}{y:D}:dJ (ae f d l) o y=y:=rfl
theorem Ua{a b:D}{r:List D}:kC (a::b::r)=.au (a::b::r):=rfl
attribute [go_sem] Ua VW Prod.mk.injEq and_false false_and Bool.not_not Bool.not_or Bool.or_self
theorem Kr{z y:D}{M:List D}{i j:Nat}{r:List D}:ez (.o (.slice z M)) [(i,0)] j (y::r)=ez (.o (.slice z (M.set i (dJ (M.getD i z) j y)))) [(i,0)] (j+1) r:=by
 simp only[ez,bump,bz,Nat.zero_add,Bool.false_eq_true,if_false,D.setAt,D.eM,D.dI]
theorem Ks{z:D}{i:Nat}:∀(r:List D)(j:Nat){M:List D},M.length<=i->ez (.o (.slice z M)) [(i,0)] j r=.o (.slice z M)
 | [],j,M,h=>rfl
 | y::r,j,M,h=>by
  rw[Kr,List.set_eq_of_length_le h,Ks r (j+1) h]
theorem Kq{z:D}{i:Nat}:∀(r:List D)(j:Nat){M:List D}{c:List D},i<M.length->M.getD i z=.agg c->ez (.o (.slice z M)) [(i,0)] j r=.o (.slice z (M.set i (.agg (setCells c j r))))
 | [],j,M,c,h,hc=>by
  have:M.set i (.agg c)=M:=by
   rw[<-hc,List.getD_eq_getElem?_getD,List.getElem?_eq_getElem h];simp
  simp only[ez,setCells,this]
 | y::r,j,M,c,h,hc=>by
  rw[Kr,hc]
  have h1:(M.set i (dJ (.agg c) j y)).getD i z=.agg (c.set j y):=by
   rw[List.getD_eq_getElem?_getD,List.getElem?_set_self h];rfl
  rw[Kq r (j+1) (by simpa using h) h1,List.set_set];rfl
theorem VH{c cs:List D}(h:cs.length=c.length):setCells c 0 cs=cs:=by
 apply List.ext_getElem?;intro j;rw[zQ cs c 0 j (by omega)];by_cases hj:j<cs.length
 ·rw[if_pos (by omega)];rfl
 ·rw[if_neg (by omega),List.getElem?_eq_none (by omega),List.getElem?_eq_none (by omega)]
theorem p5{α:Type}{f:α->D}{d:α}{l:List α}{i:Nat}{x:α}{cs:List D}{n:Nat}(hf:∀y,∃c,f y=.agg c/\c.length=n)(hx:f x=.agg cs):ez (.o (ae f d l)) [(i,0)] 0 cs=.o (ae f d (l.set i x)):=by
 obtain⟨c',h1,h2⟩:=hf x;rw[hx] at h1;injection h1 with h1
 by_cases h:i<l.length
 ·obtain⟨c,h3,h4⟩:=hf (l.getD i d)
  have h5:(l.map f).getD i (f d)=.agg c:=by rw[getD_map',h3]
  have h6:cs.length=c.length:=by rw[h1,h2,h4]
  unfold ae;rw[Kq cs 0 (by simpa using h) h5,VH h6,List.map_set,hx]
 ·unfold ae
  rw[Ks cs 0 (by simp;omega),List.set_eq_of_length_le (by omega)]
attribute [go_sem ↓] Xf Xe Xd SU SV SS bF.eq_1 bF.eq_2 bF.eq_3 bF.eq_4 bF.eq_5 bF.eq_6 bF.eq_7 bF.eq_8 bF.eq_9 bF.eq_10 bF.eq_11 qi.eq_1 qi.eq_2 cf.eq_1 cf.eq_2 cf.eq_3 bl.eq_1 bl.eq_2 bl.eq_3 bl.eq_4 bl.eq_5 bl.eq_6 bl.eq_7 bl.eq_8 bl.eq_9 bl.eq_10 bl.eq_11 bl.eq_12 bl.eq_13 bl.eq_14 bl.eq_15 bl.eq_16 bl.eq_17 bl.eq_18 bl.eq_19 bl.eq_28 kO.eq_1 kO.eq_2 od.eq_1 gH.eq_1 gH.eq_2 fe.eq_1 fe.eq_2 ky.eq_1 ky.eq_2 lO.eq_1 oX.eq_1 aD.eq_1 aD.eq_2 aD.eq_3 aD.eq_4 aD.eq_5 aD.eq_6 aD.eq_7 aD.eq_8 aD.eq_9 aD.eq_10 aD.eq_11 aD.eq_12 aD.eq_13 aD.eq_14 aD.eq_15 cV.eq_1 cV.eq_2 eI.eq_1 eI.eq_2 gR.eq_1 gR.eq_2 gR.eq_3 jO.eq_1 jO.eq_2 nA.eq_1 jw.eq_1 jw.eq_2 cX.eq_1 cX.eq_2
attribute [go_sem_proc] Nat.reduceLT Nat.reduceAdd Nat.reduceSub Nat.reduceEqDiff Nat.reduceBEq Nat.reduceLeDiff
attribute [go_sem_proc ↓] reduceIte
end Go.D3
namespace Go.D3
open Go
section
variable{P:Program}{K:St->Prop}{st st':St}{env env':List D}
@[congr] theorem Yl{rs:List RS}{m:RM}{rc:D}{n:Nat}{gs gs':List D}(h:env=env'):ly rs m rc n gs gs' env=ly rs m rc n gs gs' env':=by rw[h]
@[congr] theorem Yk{rs:List RS}{m:RM}{Q:D->List D->Prop}{n:Nat}{gs:List D}(h:env=env'):kz rs m Q n gs env=kz rs m Q n gs env':=by rw[h]
end
section
variable{n a b c d e f:Nat}{r:List Nat}
theorem VX:sg n (a::r) 0=a:=rfl
theorem VY:sg n (a::b::r) 1=b:=rfl
theorem VZ:sg n (a::b::c::r) 2=c:=rfl
theorem V0:sg n (a::b::c::d::r) 3=d:=rfl
theorem V1:sg n (a::b::c::d::e::r) 4=e:=rfl
theorem V2:sg n (a::b::c::d::e::f::r) 5=f:=rfl
end
attribute [go_sem] jx.eq_1 ly.eq_1 kz.eq_1 lC.eq_1 lC.eq_2 lC.eq_3 nO.eq_1 nO.eq_2 jJ.eq_1 jJ.eq_2 VX VY VZ V0 V1 V2 List.isEmpty_nil List.isEmpty_cons
attribute [go_sem ↓] jm.eq_1 jm.eq_2 jm.eq_3 kS.eq_1 jX.eq_1 gn.eq_1 gn.eq_2 gn.eq_3
theorem bf{P:Program}{f:FuncId}{ds:List D}{K:St->Prop}{st:St}{xs gs:List D}{Q:D->List D->Prop}(js:List Nat)(tg:Bool)(hR:bM P f xs gs Q)
  (hK:∀rc gs',Q rc gs'->kq gs gs'/\(tg=true->rc.iZ=true/\kK gs'=true)/\K ((gk (sg st.n js) (st.kill (qG js gs gs')) js gs').push (rc.ax (sg st.n js))))
  (hn:js.Nodup/\js.all (fun j=>decide (j<1000+st.n))=true:=by exact⟨by decide,rfl⟩) (hl:km st (sg st.n js) js gs:=by repeat(first | exact trivial | refine⟨rfl,?_⟩))
  (ha:jU st (sg st.n js) js tg ds xs:=by repeat(first | exact trivial | refine⟨.inl rfl,?_⟩ | refine⟨.inr ⟨rfl,rfl⟩,?_⟩)):@nL P f ds true false ⟨K⟩ st:=MF js tg hR hn hl ha hK
theorem en{P:Program}{f:FuncId}{ds:List D}{K:St->Prop}{st:St}{xs gs gs':List D}{rc:D}(js:List Nat)(tg:Bool)(hR:fV P f xs gs rc gs')
  (hK:K ((gk (sg st.n js) (st.kill (qG js gs gs')) js gs').push (rc.ax (sg st.n js)))) (hn:js.Nodup/\js.all (fun j=>decide (j<1000+st.n))=true:=by exact⟨by decide,rfl⟩)
  (hl:km st (sg st.n js) js gs:=by repeat(first | exact trivial | refine⟨rfl,?_⟩)) (ha:jU st (sg st.n js) js tg ds xs:=by repeat(first | exact trivial | refine⟨.inl rfl,?_⟩ | refine⟨.inr ⟨rfl,rfl⟩,?_⟩))
  (hw:kq gs gs':=by repeat(first | exact trivial | refine⟨(fun h=>by cases h),?_⟩)) (ht:tg=true->rc.iZ=true/\kK gs'=true:=by exact fun h=>by cases h):@nL P f ds true false ⟨K⟩ st:=MV js tg hR hn hl ha hw ht hK
end Go.D3
namespace Go.D3.Tc
open Go
section
variable(E:Nat->D)(P:Array TypeInfo)(np:Nat)(tr:List Nat)(tm:Nat)(H:List (Nat×Nat))
def DU(t:TypeId):TypeDesc:=match P[t]? with
 | some i=>i.desc
 | none=>.invalid
def ub(t:TypeId):TypeDesc:=match DU P t with
 | .named _ u=>DU P u
 | d=>d
def lq(t:TypeId):Nat:=match P[t]? with
 | some i=>i.size
 | none=>0
def FM(t:TypeId):Nat:=match P[t]? with
 | some i=>i.bytes
 | none=>0
def oU:TypeDesc->Bool
 | .struct _ | .array _ _=>true
 | _=>false
def j6:TypeDesc->TypeId
 | .slice e=>e
 | _=>0
def D2:Nat->TypeId->Nat
 | 0,_=>9
 | n+1,t=>match ub P t with
  | .int .i64=>0
  | .int .u8=>4
  | .bool=>5
  | .string=>7
  | .slice e=>[1,2,3,9,9,6,9,8].getD (D2 n e) 9
  | _=>9
def CK(d:TypeDesc)(l:List D):D:=if oU d=true then .agg l else l.headD .dead
def zc:Nat->TypeId->List D
 | 0,_=>[]
 | n+1,t=>match ub P t with
  | .int k=>[.int k 0]
  | .bool=>[.bool false]
  | .string=>[.str []]
  | .slice e=>[match D2 P 9 e with
   | 0=>E 0
   | 1=>E 1
   | 2=>E 2
   | 3=>E 3
   | 4=>E 4
   | 5=>E 5
   | 6=>E 6
   | 7=>E 7
   | 8=>E 8
   | _=>.slice (CK (ub P e) (zc n e)) []]
  | .struct fs=>fs.toList.flatMap fun f=>zc n f.type
  | .pointer _=>[.bp]
  | .map _ _=>[.bO]
  | .interface _=>[.bj]
  | _=>[.dead]
def ze(t:TypeId):D:=CK (ub P t) (zc E P 9 t)
def nc:Nat->TypeId->List D
 | 0,_=>[]
 | n+1,t=>match ub P t with
  | .slice e=>[.aB (ze E P e)]
  | .struct fs=>fs.toList.flatMap fun f=>nc n f.type
  | _=>zc E P 9 t
def xK(t:TypeId):Nat:=match ub P t with
 | .int _=>0
 | .bool=>1
 | .string=>2
 | _=>9
def kU (t:TypeId)(i:Nat):Nat×TypeId:=match ub P t with
 | .struct fs=>((fs.getD i default).offset,(fs.getD i default).type)
 | _=>(0,0)
structure Loc where
 l:List (Nat×Nat)
 m:Nat
def tX(loc:Loc)(t:TypeId):Operand->X
 | .tmp u=>match loc.m.testBit u with
  | true=>.t ((loc.l.lookup u).getD 0)
  | false=>.v (tr.idxOf u)
 | .const v=>match v with
  | .int .i64 n=>.i n
  | .int k n=>.k (.int k n)
  | .bool b=>.k (.bool b)
  | .string s=>.k (.str s.data.toList)
  | .pointer _=>.k .bp
  | .nilIface=>.k .bj
  | .slice _ _ _=>.k (.aB (ze E P (j6 (ub P t))))
  | _=>.k .dead
 | .func f=>.k (.fn f [])
 | .global g=>.g g
def KP(loc:Loc):List Operand->List TypeId->List X
 | x::l,t::r=>tX E P tr loc t x::KP loc l r
 | _,_=>[]
def vi(sh:List (Nat×Nat)):Operand->Nat
 | .tmp u=>(sh.lookup u).getD 0
 | _=>0
def ES(loc:Loc)(sh:List (Nat×Nat)):Operand->Bool
 | .tmp u=>match sh with
  | []=>false
  | _=>loc.m.testBit u&&sh.lookup u == some 2
 | _=>false
def Po:Op->Option Operand
 | .move y | .assign y=>some y
 | _=>none
def Db(d:Nat):Operand->Nat
 | .tmp u=>if H.elem (9,0) || H.elem (9,1)&&decide (np<=u) then 2 else if H.elem (11,d) || H.elem (9,2) then 3 else 0
 | _=>if H.elem (9,0) || H.elem (9,1) then 2 else if H.elem (11,d) || H.elem (9,2) then 3 else 0
def tK(loc:Loc)(sh:List (Nat×Nat))(bQ:Bool)(o:Oper):Kp :=
 let x:=tX E P tr loc;let d:=o.dst.getD 0
 match o.op with
 | .move y | .assign y=>if ES loc sh y=true then .bo (x 0 y) else if bQ=true then(if H.elem (4,d)=true then Kp.jg else if(H.elem (3,d) || vi sh y == 1)=true then Kp.jf else Kp.bQ) (tr.idxOf d) (x o.type y) else .mv (x o.type y)
 | .pick a b c=>.pick (x 0 a) (x 0 b) (x 0 c)
 | .binOp op t y z _=>match z,op == .eql || op == .neq with
  | .const .nilIface,true=>.pK (op == .neq) (x 0 y)
  | _,_=>match ub P t with
   | .struct fs=>.eqs (op == .neq) (fs.toList.map fun f=>xK P f.type) (x 0 y) (x 0 z)
   | .bool=>.oY op (x t y) (x t z)
   | _=>if(op == .shr)=true then .shr (x t y) (x 0 z) else .bin op (x t y) (x t z)
 | .unOp .not _ y=>.not (x 0 y)
 | .convert s t y=>match ub P s,ub P t with
  | .int _,.int k=>.conv k (x 0 y)
  | .slice _,.string=>.nI (x s y)
  | .string,.slice _=>.fZ (x s y)
  | _,_=>default
 | .indexAddr t y i=>.az (lq P (j6 (ub P t))) (x 0 y) (x 0 i)
 | .load t a=>if oU (ub P t)=true then .dj (lq P t) (x 0 a) else .ld (x 0 a)
 | .store t a v=>if H.elem (7,t)=true then .iD (if oU (ub P t)=true then lq P t else 1) (x 0 a) (x t v) else if oU (ub P t)=true then .bE (lq P t) (x 0 a) (x t v) else .st (x 0 a) (x t v)
 | .fieldAddr t y i=>.fA (kU P t i).1 (x 0 y)
 | .field t y i=>if oU (ub P (kU P t i).2)=true then .pk (kU P t i).1 (lq P (kU P t i).2) (x 0 y) else .pj (kU P t i).1 (x 0 y)
 | .index _ y i=>.pv (x 0 y) (x 0 i)
 | .build t ps=>.gS (nc E P 9 t) (ps.toList.map fun p=>((kU P t p.1).1,lq P (kU P t p.1).2,x (kU P t p.1).2 p.2))
 | .buildSlice t n ps=>if H.elem (8,d)=true then .jh (ze E P (j6 (ub P t))) (match ps.toList with | p::_=>x (j6 (ub P t)) p.2 | []=>.i 0) else .aR (ze E P (j6 (ub P t))) n (ps.toList.map fun p=>(p.1,x (j6 (ub P t)) p.2))
 | .extract y i=>.ext i (x 0 y)
 | .nilCheck y=>.bH (x 0 y)
 | .alloc t=>.cw (nc E P 9 t)
 | .box t y=>(match Db np H d y with | 2=>Kp.kP | 3=>Kp.box | _=>Kp.fv) (lq P t) (x t y)
 | .makeSlice t l c=>.ak (ze E P (j6 (ub P t))) (FM P (j6 (ub P t))) (x 0 l) (x 0 c)
 | .slice t y l h none=>(match ub P t with | .string=>Kp.oI | _=>Kp.sl) (x t y) (l.map (x 0)) (h.map (x 0))
 | .range _ y=>.eL (x 0 y)
 | .next (.tmp u) _=>.lr (tr.idxOf u)
 | .makeMap _ none=>.gi
 | .lookup m y k ok=>match ub P m with
  | .map kt e=>.nZ ok (xK P kt) (ze E P e) (x m y) (x kt k)
  | _=>default
 | .mapUpdate m y k v=>match ub P m with
  | .map kt e=>.lp (xK P kt) (x m y) (x kt k) (x e v)
  | _=>default
 | .makeFunc (.func f) _ cs=>.pH f (cs.toList.map (x 0))
 | .call c =>
  let as:=KP E P tr loc c.args.toList c.argTypes.toList
  match c.callee with
  | .builtin b=>match b,as,c.argTypes.toList with
   | .len,[y],t::_=>(match ub P t with | .slice _=>Kp.len | .string=>Kp.pE | _=>Kp.nX) y
   | .append,[y,z],t::_=>.app (lq P (j6 (ub P t))) (FM P (j6 (ub P t))) y z
   | .max,[y,z],_=>.mm true y z
   | .min,[y,z],_=>.mm false y z
   | .copy,[y,z],_=>.jZ y z
   | _,_,_=>default
  | .value (.func f)=>if(H.elem (6,f) || H.elem (5,d))=true then .gw f as else if H.elem (0,f)=true then .dyn (.k (.fn f [])) as else if H.elem (2,f)=true then .ik f as else .call f as
  | .value y=>.dyn (x 0 y) as
  | _=>default
 | _=>default
def bw(sh:List (Nat×Nat))(o:Oper):Nat:=match o.op with
 | .move y | .assign y | .nilCheck y | .fieldAddr _ y _=>vi sh y
 | .load t a=>match ub P t with
  | .struct _=>if vi sh a=3 then 0 else 1
  | _=>0
 | .field t y i=>match ub P (kU P t i).2 with
  | .struct _=>if vi sh y=1 then 1 else 0
  | _=>0
 | .alloc _=>3
 | .box _ y=>Db np H (o.dst.getD 0) y
 | .call c=>match c.callee with
  | .value (.func f)=>if H.elem (1,f)=true then 2 else 0
  | _=>0
 | _=>0
def Kv(sh:List (Nat×Nat))(d s:Nat):List (Nat×Nat):=if s=0 then(if(sh.lookup d).isSome=true then(d,0)::sh else sh) else(d,s)::sh
def sQ:List Edge->List Nat
 | []=>[]
 | ⟨_,.textOnly _⟩::r | ⟨_,.gcOnly _⟩::r=>sQ r
 | ⟨n,_⟩::r=>n::sQ r
def FV:List Nat->Nat->Nat
 | [],_=>0
 | x::_,0=>x
 | _::r,n+1=>FV r n
def DC(acc:List Nat):List Nat->Nat->Nat
 | [],m=>m
 | j::r,m=>DC acc r (m ||| (1 <<< j) ||| FV acc j)
def DB:List Nat->List Oper->List Nat
 | acc,[]=>acc
 | acc,o::r=>DB (acc++[DC acc (sQ o.after.toList) 0]) r
def Af(b:Nat):Nat->List Nat->Nat->Nat
 | _,[],m=>m
 | k,c::r,m=>match c.testBit b with
  | true=>Af b (k+1) r (m ||| (1 <<< k))
  | false=>Af b (k+1) r m
def cs(cl:List Nat):Nat->List Nat->List (Nat×Nat)
 | _,[]=>[]
 | k,c::r=>(c,Af k 0 cl 0)::cs cl (k+1) r
def mE:List (Nat×Nat)->Nat->Nat×Nat
 | [],_=>(0,0)
 | x::_,0=>x
 | _::r,n+1=>mE r n
def KY(i j m n:Nat):Nat->List (Nat×Nat)->List (Nat×Nat)
 | _,[]=>[]
 | k,(c,s)::r=>(match k == j || c.testBit j with | true=>c ||| m | false=>c,match k == i || s.testBit i with | true=>s ||| n | false=>s)::KY i j m n (k+1) r
def CH(i j:Nat)(p:List (Nat×Nat)):List (Nat×Nat):=match mE p i,mE p j with
 | (c,_),(_,s)=>KY i j (c ||| (1 <<< i)) (s ||| (1 <<< j)) 0 p
def rD:List Nat->Nat->Nat->Nat
 | [],_,n=>n
 | i::r,j,n=>match i == j with
  | true=>n
  | false=>rD r j (n+1)
def W8(vs ds:Nat):Op->Bool
 | .move (.tmp t) | .nilCheck (.tmp t) | .fieldAddr _ (.tmp t) _=>vs.testBit t || !ds.testBit t
 | _=>false
def qg(ds:Nat):Nat->Nat->Nat->List Oper->Nat
 | _,_,is,[]=>is
 | i,vs,is,o::r=>match o.guard,o.dst with
  | none,some d=>match tm.testBit d with
   | true=>qg ds (i+1) vs is r
   | false=>match W8 vs ds o.op with
    | false=>qg ds (i+1) vs is r
    | true=>match(sQ o.after.toList).all fun j=>is.testBit j with
     | true=>qg ds (i+1) (vs ||| (1 <<< d)) (is ||| (1 <<< i)) r
     | false=>qg ds (i+1) vs is r
  | _,_=>qg ds (i+1) vs is r
def w6:List Oper->Nat->Nat
 | [],m=>m
 | o::r,m=>match o.dst with
  | some d=>w6 r (m ||| (1 <<< d))
  | none=>w6 r m
structure R1 where
 pre:List Nat
 l:List bd
 post:List (Nat×Nat)
 loc:Loc
 sh:List (Nat×Nat)
def LB (b:Bool)(k:Kp):Kp:=match b with
 | true=>match k with
  | .app 1 n (.t b) (.t s)=>.eB 1 n b s
  | k=>k
 | false=>k
structure Oq where
 o:Oper
 g:Option (Nat×Bool)
 b:Bool
def tS:Nat->List Oq->R1->R1
 | _,[],r=>r
 | i,q::os,r=>match Po q.o.op,q.o.dst with
  | m,some d=>match m.any (ES r.loc r.sh),tm.testBit d with
   | bo,tk=>match m.isSome&&tk&&q.g.isNone&&q.b&&!bo with
    | true=>tS (i+1) os ⟨r.pre,⟨q.g,tK E P np tr H r.loc r.sh true q.o⟩::r.l,r.post,⟨r.loc.l.filter (·.1 != d),r.loc.m ^^^ (r.loc.m &&& (1 <<< d))⟩,Kv r.sh d (bw P np H r.sh q.o)⟩
    | false=>match⟨q.g,LB (!q.b&&q.g.isNone) (tK E P np tr H r.loc r.sh false q.o)⟩::r.l,(⟨(d,i)::r.loc.l,r.loc.m ||| (1 <<< d)⟩:Loc),Kv r.sh d (if bo=true then 3 else bw P np H r.sh q.o) with
     | l,loc,sh=>match tk with
      | true=>match tr.idxOf d with
       | j=>tS (i+1) os ⟨r.pre++[j],l,r.post.filter (·.1 != j)++[(j,i)],loc,sh⟩
      | false=>tS (i+1) os ⟨r.pre,l,r.post,loc,sh⟩
  | _,none=>tS (i+1) os ⟨r.pre,⟨q.g,tK E P np tr H r.loc r.sh false q.o⟩::r.l,r.post,r.loc,r.sh⟩
def tR(qs:List Oq)(sh:List (Nat×Nat)):R1:=match tS E P np tr tm H 0 qs ⟨[],[],[],⟨[],0⟩,sh⟩ with
 | ⟨p,l,q,loc,sh⟩=>⟨p,l.reverse,q,loc,sh⟩
def D1(o:Oper):Bool:=match o.op with
 | .assign _ | .store _ _ _ | .mapUpdate _ _ _ _ | .next _ _=>true
 | .buildSlice _ _ _=>H.elem (8,o.dst.getD 0)
 | .call c=>match c.callee with
  | .builtin .append | .builtin .copy | .builtin .delete=>true
  | .value (.func f)=>H.elem (0,f) || H.elem (2,f)
  | .value _=>true
  | _=>false
 | _=>false
def Nz:Op->Bool
 | .assign _=>true
 | _=>false
def xa:Nat->List Oper->List Nat
 | _,[]=>[]
 | i,o::r=>match D1 H o with
  | true=>i::xa (i+1) r
  | false=>xa (i+1) r
def w9:Nat->List Oper->List Nat
 | _,[]=>[]
 | i,o::r=>match D1 H o&&!Nz o.op with
  | true=>i::w9 (i+1) r
  | false=>w9 (i+1) r
def comp(full hv:Nat)(p:List (Nat×Nat))(e:Nat):Bool:=match mE p e with
 | (c,s)=>c ||| s ||| (1 <<< e) ||| hv == full
def eZ(full hv:Nat)(p:List (Nat×Nat)):List Nat->Bool
 | []=>true
 | e::r=>match comp full hv p e with
  | true=>eZ full hv p r
  | false=>false
def FW:List Oper->Nat->Oper
 | [],_=>default
 | x::_,0=>x
 | _::r,n+1=>FW r n
def tB(full hv:Nat)(p:List (Nat×Nat))(ops:List Oper)(l:List Nat):List Nat->List Oq
 | []=>[]
 | i::r=>match FW ops i with
  | o=>⟨o,match o.guard with | some (j,w)=>some (rD l j 0,w) | none=>none,comp full hv p i⟩::tB full hv p ops l r
def Gt:List Oper->List Oq
 | []=>[]
 | o::r=>⟨o,o.guard,true⟩::Gt r
def vb(b:Bool)(m:Nat):List Nat->List Nat
 | []=>[]
 | i::r=>match m.testBit i == b with
  | true=>i::vb b m r
  | false=>vb b m r
def Ag(full hv:Nat)(ops:List Oper)(eb:List Nat)(p:List (Nat×Nat))(l:List Nat)(sh:List (Nat×Nat)):Option R1:=match eZ full 0 p eb with
 | true=>some (tR E P np tr tm H (tB full 0 p ops l l) sh)
 | false=>match eZ full hv p eb with
  | true=>match vb true hv l++vb false hv l with
   | l=>some (tR E P np tr tm H (tB full hv p ops l l) sh)
  | false=>none
def EI(p:List (Nat×Nat))(i j:Nat):Nat->Nat->List Nat->List Nat->List Nat
 | 0,_,pm,left=>pm++left
 | m+1,b,pm,left=>match left.find? fun k=>((mE p k).1 &&& b) == (mE p k).1&&(k != i || b.testBit j) with
  | some k=>EI p i j m (b ||| (1 <<< k)) (pm++[k]) (left.erase k)
  | none=>pm++left
def tD(i j:Nat):List Nat->List Nat
 | []=>[]
 | k::r=>match k == i,k == j with
  | true,_=>tD i j r
  | _,true=>j::i::tD i j r
  | _,_=>k::tD i j r
def ui(e u:Nat):List Nat->Option Nat->Bool->Option (Nat×Nat)
 | [],d,_=>d.map fun q=>(e,q)
 | k::r,d,past=>match k == e with
  | true=>match d with
   | some q=>some (q,e)
   | none=>ui e u r none true
  | false=>match u.testBit k,past with
   | true,true=>some (e,k)
   | true,false=>ui e u r (some k) false
   | false,_=>ui e u r d past
def xq(p:List (Nat×Nat))(i j:Nat):Bool->List Nat->Bool
 | _,[]=>false
 | inn,k::r=>match k == i,k == j with
  | true,_=>xq p i j true r
  | _,true=>false
  | _,_=>match inn&&(mE p k).1.testBit i with
   | true=>true
   | false=>xq p i j inn r
def vr(go:List (Nat×Nat)->List Nat->Option (List Nat×RT))(full hv:Nat)(p:List (Nat×Nat))(l:List Nat):List Nat->Option (List Nat×RT)
 | []=>none
 | e::es=>match mE p e with
  | (c,s)=>match ui e (full ^^^ ((c ||| s ||| (1 <<< e) ||| hv) &&& full)) l none false with
   | none=>vr go full hv p l es
   | some (i,j)=>match go (CH i j p) l with
    | none=>vr go full hv p l es
    | some x=>match(match xq p i j false l with | true=>EI p i j l.length 0 [] l | false=>tD i j l) with
     | l2=>match go (CH j i p) l2 with
      | none=>vr go full hv p l es
      | some y=>some (x.1,.two (rD l i 0) (rD l j 0) (l2.map fun k=>rD l k 0) x.2 y.2)
def tT(full hv:Nat)(ops:List Oper)(ef eb:List Nat)(sh:List (Nat×Nat)):Nat->List (Nat×Nat)->List Nat->Option (List Nat×RT)
 | 0,p,l=>match Ag E P np tr tm H full hv ops eb p l sh with
  | some r=>some (r.pre,.leaf r.l r.post)
  | none=>none
 | m+1,p,l=>match Ag E P np tr tm H full hv ops eb p l sh with
  | some r=>some (r.pre,.leaf r.l r.post)
  | none=>vr (tT full hv ops ef eb sh m) full hv p l ef
def Ah(ops:List Oper)(draw:Bool)(sh:List (Nat×Nat)):Option (List Nat×RT)×R1 :=
 match draw with
 | false=>(none,tR E P np tr tm H (Gt ops) sh)
 | true=>match DB [] ops,1 <<< ops.length-1,qg tm (w6 ops 0) 0 0 0 ops,w9 H 0 ops,List.range ops.length with
  | cl,full,hv,eb,l=>match cs cl 0 cl with
   | p=>match Ag E P np tr tm H full hv ops eb p l sh with
    | some r=>(none,r)
    | none=>(tT E P np tr tm H full hv ops (xa H 0 ops) eb sh 6 p l,tR E P np tr tm H (tB full 0 p ops l l) sh)
def bits:List Nat->Nat
 | []=>0
 | i::r=>(1 <<< i) ||| bits r
def tC:Code->List (Nat×Nat)->C×List (Nat×Nat)
 | .skip,sh=>(.skip,sh)
 | .ret,sh=>(.ret,sh)
 | .exit i,sh=>(.exit i,sh)
 | .region _ ops draw,sh=>match Ah E P np tr tm H ops.toList draw sh with
  | (some (p,t),r)=>(.alt p t,r.sh)
  | (none,r)=>(.ops r.pre r.l r.post,r.sh)
 | .seq (.region _ ops draw) (.cond x a b),sh =>
  let r:=(Ah E P np tr tm H ops.toList draw sh).2;let a:=tC a r.sh;let b:=tC b a.2
  (.dp r.pre r.l r.post (tX E P tr r.loc 0 x) a.1 b.1,b.2)
 | .seq (.region _ ops draw) (.seq (.cond x a b) c),sh =>
  let r:=(Ah E P np tr tm H ops.toList draw sh).2;let a:=tC a r.sh;let b:=tC b a.2;let c:=tC c b.2
  (.uD r.pre r.l r.post (tX E P tr r.loc 0 x) a.1 b.1 c.1,c.2)
 | .seq a b,sh=>let a:=tC a sh;let b:=tC b a.2;(.seq a.1 b.1,b.2)
 | .cond x a b,sh=>let a:=tC a sh;let b:=tC b a.2;(.cond (tX E P tr ⟨[],0⟩ 0 x) a.1 b.1,b.2)
 | .block i a,sh=>let a:=tC a sh;(.block i a.1,a.2)
 | .loop a,sh=>let a:=tC a sh;(.loop a.1,a.2)
 | _,sh=>(.skip,sh)
end
def zW(P:Array TypeInfo):Nat->List TypeId->List (Nat×Nat)
 | _,[]=>[]
 | j,t::r=>match ub P t with
  | .struct _=>(j,1)::zW P (j+1) r
  | _=>zW P (j+1) r
def WU(P:Array TypeInfo)(fn:Func)(tr:List Nat)(H:List (Nat×Nat))(E:Nat->D):C:=(tC E P fn.params.size tr (bits tr) H (fn.body.getD .skip) (zW P 0 fn.params.toList)).1
def Al(P:Array TypeInfo)(tr:List Nat):List ResultVar->List RS
 | []=>[]
 | .tmp t::l=>.t (tr.idxOf t)::Al P tr l
 | .cell a t::l=>.c (tr.idxOf a) (lq P t) (oU (ub P t))::Al P tr l
def WX(P:Array TypeInfo)(fn:Func)(tr:List Nat)(H:List (Nat×Nat))(E:Nat->D):C×List RS:=(WU P fn tr H E,Al P tr fn.results.toList)
end Go.D3.Tc
namespace Go.D3
def enc:Nat->D
 | 0=>ints []
 | 1=>aI []
 | 2=>gX []
 | 3=>ER []
 | 4=>bytes []
 | 5=>lQ []
 | 6=>sR []
 | 7=>dY []
 | _=>vp []
inductive Wh{α:Type}(x:α):Prop where
 | mk
theorem wh{α:Type}{x:α}(p:Prop)(_:p=Wh x):Wh x:=.mk
structure Sl where
 s:(Nat->D)->C×List RS
def ak(T:Array TypeInfo)(fn:Func)(tr:List Nat)(H:List (Nat×Nat)){s:(Nat->D)->C×List RS}(_:∀E,Wh (Tc.WX T fn tr H E)->Wh (s E):=by intro E h;cbv at h;exact wh (type_of% h) rfl):Sl:=⟨s⟩
def aF(P:Program)(fn:Func)(tr:List Nat)(s:Sl)(n:Nat):Bool:=kV P fn tr (s.s enc).1 n (s.s enc).2
attribute [go_sem] enc.eq_1 enc.eq_2 enc.eq_3 enc.eq_4 enc.eq_5 enc.eq_6 enc.eq_7 enc.eq_8 enc.eq_9
section
variable{P:Program}{f:FuncId}{fn:Func}{tr:List Nat}{s:Sl}
theorem aQ{as:List Arg}{res:D}(hf:P.funcs[f]?=some fn)(hok:aF P fn tr s as.length=true)(hv:bF P (s.s enc).1 (out (s.s enc).2 res tr.length as) ⟨fun _ _=>False,out (s.s enc).2 res tr.length as⟩ (eJ tr as))
  (ha:oW as=true:=by exact rfl) (hl:as.length<500:=by simp only[List.length_cons,List.length_nil];decide):aC P f as res:=Uc hf hok ha hl rfl hv
theorem mN{as gs gs':List D}{rc:D}(m:RM)(hf:P.funcs[f]?=some fn)(hok:aF P fn tr s as.length=true)(hv:bF P (s.s enc).1 (ly (s.s enc).2 m rc tr.length gs gs') ⟨fun _ _=>False,ly (s.s enc).2 m rc tr.length gs gs'⟩ (jx tr as gs))
  (hnm:(fn.name == "runtime.NumGoroutine")=false:=by exact rfl) (ha:jJ as=true:=by exact rfl) (hl:as.length<500/\gs.length<400:=by constructor<;>simp only[List.length_cons,List.length_nil]<;>decide):fV P f as gs rc gs':=Ud m hf hnm hok ha hl rfl hv
theorem dN{as gs:List D}{Q:D->List D->Prop}(m:RM)(hf:P.funcs[f]?=some fn)(hok:aF P fn tr s as.length=true)(hv:bF P (s.s enc).1 (kz (s.s enc).2 m Q tr.length gs) ⟨fun _ _=>False,kz (s.s enc).2 m Q tr.length gs⟩ (jx tr as gs))
  (hnm:(fn.name == "runtime.NumGoroutine")=false:=by exact rfl) (ha:jJ as=true:=by exact rfl) (hl:as.length<500/\gs.length<400:=by constructor<;>simp only[List.length_cons,List.length_nil]<;>decide):bM P f as gs Q:=zm m hf hnm hok ha hl rfl hv
end
end Go.D3
namespace Go.D3
open Go
inductive Ty where
 | int (k:IntKind)
 | bool
 | str
 | sl (e:Ty)
 | nil
 | cons (a b:Ty)
def Ty.V:Ty->Type
 | .int _=>Int
 | .bool=>Bool
 | .str=>List UInt8
 | .sl e=>List e.V
 | .nil=>Unit
 | .cons a b=>a.V×b.V
def Ty.st:Ty->Bool
 | .nil | .cons _ _=>true
 | _=>false
def sv(s:Bool)(l:List D):D:=match s with
 | true=>.agg l
 | false=>l.headD .dead
def Ty.z:(t:Ty)->t.V
 | .int _=>(0:Int)
 | .bool=>false
 | .str=>[]
 | .sl _=>[]
 | .nil=>()
 | .cons a b=>(a.z,b.z)
def Ty.n:Ty->Nat
 | .nil=>0
 | .cons a b=>a.n+b.n
 | _=>1
def Ty.cs:(t:Ty)->t.V->List D
 | .int k,(x:Int)=>[.int k x]
 | .bool,(x:Bool)=>[.bool x]
 | .str,(x:List UInt8)=>[.str x]
 | .sl e,(l:List e.V)=>[.slice (sv e.st (e.cs e.z)) (l.map fun x=>sv e.st (e.cs x))]
 | .nil,_=>[]
 | .cons a b,(x,y)=>a.cs x++b.cs y
def Ty.d(t:Ty)(x:t.V):D:=sv t.st (t.cs x)
theorem Ty.pd:∀(t:Ty)(x:t.V),(t.cs x).length=t.n
 | .int _,_=>rfl
 | .bool,_=>rfl
 | .str,_=>rfl
 | .sl _,_=>rfl
 | .nil,_=>rfl
 | .cons a b,(x,y)=>by simp only[Ty.cs,List.length_append,Ty.n,Ty.pd a x,Ty.pd b y]
theorem Ty.wW:∀(t:Ty)(x:t.V),(t.d x).cells=t.cs x
 | .int _,_=>rfl
 | .bool,_=>rfl
 | .str,_=>rfl
 | .sl _,_=>rfl
 | .nil,_=>rfl
 | .cons _ _,_=>rfl
def Ty.dK(P:Program):Ty->(TypeId ⊕ (List Field×Nat))->Bool
 | .int k,.inl T=>(match P.underlying T with | some (.int k')=>decide (k'=k) | _=>false)
 | .bool,.inl T=>(match P.underlying T with | some .bool=>true | _=>false)
 | .str,.inl T=>(match P.underlying T with | some .string=>true | _=>false)
 | .sl e,.inl T=>(match P.underlying T with | some (.slice E)=>e.dK P (.inl E)&&decide (P.cellsOf E=e.n)&&decide (0<e.n) | _=>false)
 | .nil,.inr ([],_)=>true
 | .cons a b,.inr (f::r,off)=>decide (f.offset=off)&&decide (P.cellsOf f.type=a.n)&&a.dK P (.inl f.type)&&b.dK P (.inr (r,off+a.n))
 | .cons a b,.inl T=>(match P.underlying T with
  | some (.struct fs)=>decide (P.cellsOf T=a.n+b.n)&&(match fs.toList with
   | f::r=>decide (f.offset=0)&&decide (P.cellsOf f.type=a.n)&&a.dK P (.inl f.type)&&b.dK P (.inr (r,a.n))
   | []=>false)
  | _=>false)
 | _,_=>false
section
variable{H:Type}{enc:TypeId×Value->H}{P:Program}{w:World}{base:Nat}{spare:Nat->Bool}{held:Bool}
def ir(w:World)(b:Nat):Prop:=b<w.heap.size
theorem Dw{a:Addr}{v:Value}(h:w.cell? a=some v):a.block<w.heap.size/\a.spot=none:=by
 unfold World.cell? at h;split at h
 ·rename_i c _ _ hb
  refine⟨?_,?_⟩
  ·have:=Array.getElem?_eq_some_iff.1 hb;exact this.1
  ·split at h
   ·cases h
   ·rename_i hs;simpa using hs
 ·cases h
theorem vD:∀(ty:Ty),(∀{T:TypeId}{fuel:Nat}{vs:List Value}{x:DataW H×List MemPlace},ty.dK P (.inl T)=true->DataW.trod enc P w base spare held fuel T vs=some x ->
   ∃y:ty.V,vs.length=ty.n/\∀j c,(ty.cs y)[j]?=some c->Rd w (ir w) (vs.getD j undef) c) /\
  (∀{r:List Field}{off fuel:Nat}{vs:List Value},ty.dK P (.inr (r,off))=true->(∀(i:Nat)(f:Field),r[i]?=some f->∃x,DataW.trod enc P w base spare held fuel f.type ((vs.drop f.offset).take (P.cellsOf f.type))=some x) ->
    ∃y:ty.V,∀j c,(ty.cs y)[j]?=some c->Rd w (ir w) (vs.getD (off+j) undef) c)
 | .int k=>by
  refine⟨fun {T fuel vs x} hc h=>?_,fun {r off fuel vs} hc _=>by simp[Ty.dK] at hc⟩;simp only[Ty.dK] at hc;split at hc<;>try(cases hc;done)
  rename_i k' hu;simp only[decide_eq_true_eq] at hc;subst hc;obtain⟨n,rfl,_,hw⟩:=DataW.trod_int hu h;refine⟨n,rfl,fun j c hj=>?_⟩;cases j with
  | zero=>simp[Ty.cs] at hj;subst hj;exact .int (by simpa[Lit.wf,IntKind.has] using hw)
  | succ j=>simp[Ty.cs] at hj
 | .bool=>by
  refine⟨fun {T fuel vs x} hc h=>?_,fun {r off fuel vs} hc _=>by simp[Ty.dK] at hc⟩;simp only[Ty.dK] at hc;split at hc<;>try(cases hc;done)
  rename_i hu;obtain⟨n,rfl,_⟩:=DataW.trod_bool hu h;refine⟨n,rfl,fun j c hj=>?_⟩;cases j with
  | zero=>simp[Ty.cs] at hj;subst hj;exact .bool
  | succ j=>simp[Ty.cs] at hj
 | .str=>by
  refine⟨fun {T fuel vs x} hc h=>?_,fun {r off fuel vs} hc _=>by simp[Ty.dK] at hc⟩;simp only[Ty.dK] at hc;split at hc<;>try(cases hc;done)
  rename_i hu;obtain⟨s,rfl,_,hs⟩:=DataW.trod_string hu h;refine⟨s.data.toList,rfl,fun j c hj=>?_⟩;cases j with
  | zero =>
   simp[Ty.cs] at hj;subst hj;have:=Rd.str (w:=w) (A:=ir w) (s:=s.data.toList) (by simpa using hs);rw[<-wX] at this;exact this
  | succ j=>simp[Ty.cs] at hj
 | .sl e=>by
  refine⟨fun {T fuel vs x} hc h=>?_,fun {r off fuel vs} hc _=>by simp[Ty.dK] at hc⟩;simp only[Ty.dK] at hc;split at hc<;>try(cases hc;done)
  rename_i E hu;simp only[Bool.and_eq_true,decide_eq_true_eq] at hc;obtain⟨⟨hc1,hc2⟩,hc3⟩:=hc
  have one:∀(l:List e.V)(v:Value),vs=[v]->Rd w (ir w) v (.slice (e.d e.z) (l.map e.d))->∃y:(Ty.sl e).V,vs.length=(Ty.sl e).n/\∀j c,((Ty.sl e).cs y)[j]?=some c->Rd w (ir w) (vs.getD j undef) c:=by
   rintro l v rfl hr;refine⟨l,rfl,fun j c hj=>?_⟩;cases j with
   | zero=>simp[Ty.cs] at hj;subst hj;exact hr
   | succ j=>simp[Ty.cs] at hj
  rcases DataW.trod_slice hu h with⟨hvs,_⟩ | ⟨a,len,cap,elems,rest,n,_,hvs,_,hb,hl,hm,hlen,hel,_,_⟩
  ·exact one [] _ hvs .nil
  ·cases len with
   | zero=>exact one [] _ hvs (.empty hm)
   | succ len =>
    have each:∀i,∃(y:e.V)(us:List Value),i<len+1->us.length=e.n/\(∀j,j<e.n->w.cell? (a.add (i*e.n+j))=us[j]?)/\∀j c,(e.cs y)[j]?=some c->Rd w (ir w) (us.getD j undef) c:=by
     intro i;by_cases hi:i<len+1
     ·have h1:=hel i hi
      have h2:elems[i]?=some elems[i]:=List.getElem?_eq_getElem (by omega);rw[h2,Option.bind_eq_some_iff] at h1;obtain⟨us,h3,h4⟩:=h1;obtain⟨y,h5,h6⟩:=(vD e).1 hc1 h4;obtain⟨_,h8,h7⟩:=World.cells?_some h3;rw[hc2] at h7 h8;refine⟨y,us,fun _=>⟨h5,fun j hj=>?_,h6⟩⟩;rw[<-Addr.add_add];exact h7 j hj
     ·exact⟨e.z,[],fun hh=>absurd hh hi⟩
    obtain⟨y,us,hus⟩:∃(y:Nat->e.V)(us:Nat->List Value),∀i,i<len+1->(us i).length=e.n/\(∀j,j<e.n->w.cell? (a.add (i*e.n+j))=(us i)[j]?)/\∀j c,(e.cs (y i))[j]?=some c->Rd w (ir w) ((us i).getD j undef) c :=
     ⟨fun i=>Classical.choose (each i),fun i=>Classical.choose (Classical.choose_spec (each i)),fun i=>Classical.choose_spec (Classical.choose_spec (each i))⟩
    obtain⟨q1,q2,q3⟩:=hus 0 (by omega);have h0:=q2 0 hc3
    have h0':∃u,w.cell? a=some u:=by
     rw[Nat.zero_mul,Nat.zero_add,Addr.add_zero'] at h0;rw[h0];exact⟨(us 0)[0]'(by show 0<(us 0).length;rw[q1];exact hc3),List.getElem?_eq_getElem _⟩
    obtain⟨u0,h0'⟩:=h0';obtain⟨l1,l2⟩:=Dw h0';obtain⟨b,off,spot⟩:=a;simp only at l1 l2;subst l2
    have hsz:∀d∈(List.range (len+1)).map (fun i=>e.d (y i)),d.cells.length=e.n:=by
     intro d hd;obtain⟨i,_,rfl⟩:=List.mem_map.1 hd;rw[Ty.wW,Ty.pd]
    have hcell:∀j d,cellAt ((List.range (len+1)).map fun i=>e.d (y i)) e.n j=some d->∃i o,j=i*e.n+o/\i<len+1/\o<e.n/\(e.cs (y i))[o]?=some d:=by
     intro j d hd;unfold cellAt at hd;rw[List.getElem?_map] at hd;by_cases hi:j / e.n<len+1
     ·rw[List.getElem?_range hi] at hd
      simp only[Option.map_some,Option.bind_some,Ty.wW] at hd;refine⟨j / e.n,j % e.n,by rw[Nat.mul_comm];exact(Nat.div_add_mod j e.n).symm,hi,Nat.mod_lt _ hc3,hd⟩
     ·rw[List.getElem?_eq_none (by simpa using hi)] at hd
      simp at hd
    have hr:Rd w (ir w) (.slice (some ⟨b,off,none⟩) ((List.range (len+1)).map fun i=>e.d (y i)).length cap) (.slice (e.d e.z) ((List.range (len+1)).map fun i=>e.d (y i))):=by
     refine Rd.slice l1 (by simpa using hl) hm hc3 (by rw[Ty.wW,Ty.pd]) hsz (fun j=>(us (j / e.n)).getD (j % e.n) undef) (fun j d hd=>?_) (fun j d hd=>?_)
     ·obtain⟨i,o,rfl,hi,ho,_⟩:=hcell j d hd
      obtain⟨p1,p2,_⟩:=hus i hi;have:=p2 o ho;rw[Addr.add_lit] at this;rw[this];have e1:(i*e.n+o) / e.n=i:=by rw[Nat.mul_comm,Nat.mul_add_div hc3,Nat.div_eq_of_lt ho];omega
      have e2:(i*e.n+o) % e.n=o:=by rw[Nat.mul_comm,Nat.mul_add_mod,Nat.mod_eq_of_lt ho]
      rw[e1,e2];have ho':o<(us i).length:=by rw[p1];exact ho
      rw[List.getD_eq_getElem?_getD,List.getElem?_eq_getElem ho'];rfl
     ·obtain⟨i,o,rfl,hi,ho,hd'⟩:=hcell j d hd
      obtain⟨_,_,p3⟩:=hus i hi;have e1:(i*e.n+o) / e.n=i:=by rw[Nat.mul_comm,Nat.mul_add_div hc3,Nat.div_eq_of_lt ho];omega
      have e2:(i*e.n+o) % e.n=o:=by rw[Nat.mul_comm,Nat.mul_add_mod,Nat.mod_eq_of_lt ho]
      show Rd w _ ((us ((i*e.n+o) / e.n)).getD ((i*e.n+o) % e.n) undef) d;rw[e1,e2];exact p3 o d hd'
    refine one ((List.range (len+1)).map y) _ hvs ?_;rw[List.map_map];have e3:((List.range (len+1)).map fun i=>e.d (y i)).length=len+1:=by simp
    rw[e3] at hr;exact hr
 | .nil=>by
  refine⟨fun {T fuel vs x} hc h=>by simp[Ty.dK] at hc,fun {r off fuel vs} hc _=>⟨(),fun j c hj=>by simp[Ty.cs] at hj⟩⟩
 | .cons a b=>by
  have fields:∀{f:Field}{r:List Field}{off fuel:Nat}{vs:List Value},f.offset=off->P.cellsOf f.type=a.n->a.dK P (.inl f.type)=true->b.dK P (.inr (r,off+a.n))=true ->
    (∀(i:Nat)(g:Field),(f::r)[i]?=some g->∃x,DataW.trod enc P w base spare held fuel g.type ((vs.drop g.offset).take (P.cellsOf g.type))=some x) ->
    ∃y:(Ty.cons a b).V,∀j c,((Ty.cons a b).cs y)[j]?=some c->Rd w (ir w) (vs.getD (off+j) undef) c:=by
   intro f r off fuel vs h1 h2 h3 h4 h;obtain⟨x,hx⟩:=h 0 f rfl;obtain⟨y1,k1,k2⟩:=(vD a).1 h3 hx;obtain⟨y2,k3⟩:=(vD b).2 (vs:=vs) (fuel:=fuel) h4 fun i g hg=>h (i+1) g (by simpa using hg)
   refine⟨(y1,y2),fun j c hj=>?_⟩;have hlen:=Ty.pd a y1;simp only[Ty.cs] at hj;by_cases hja:j<a.n
   ·rw[List.getElem?_append_left (by omega)] at hj
    have:=k2 j c hj;rw[h1,h2] at this
    have e1:((vs.drop off).take a.n).getD j undef=vs.getD (off+j) undef:=by
     simp only[List.getD_eq_getElem?_getD];rw[List.getElem?_take_of_lt hja,List.getElem?_drop]
    rwa [e1] at this
   ·rw[List.getElem?_append_right (by omega),hlen] at hj
    have:=k3 (j-a.n) c hj
    rwa [show off+a.n+(j-a.n)=off+j by omega] at this
  refine⟨fun {T fuel vs x} hc h=>?_,fun {r off fuel vs} hc h=>?_⟩
  ·simp only[Ty.dK] at hc
   split at hc<;>try(cases hc;done)
   rename_i fs hu;simp only[Bool.and_eq_true,decide_eq_true_eq] at hc;obtain⟨hn,hc⟩:=hc;split at hc<;>try(cases hc;done)
   rename_i f r hfs;simp only[Bool.and_eq_true,decide_eq_true_eq] at hc;obtain⟨⟨⟨h1,h2⟩,h3⟩,h4⟩:=hc;obtain⟨xs,n,_,_,hlen,hxs,hf⟩:=DataW.trod_struct hu h
   obtain⟨y,hy⟩:=fields (off:=0) (vs:=vs) (fuel:=n) h1 h2 h3 (by rw[Nat.zero_add];exact h4) fun i g hg=>by
    have hg':fs[i]?=some g:=by rw[<-hfs] at hg;simpa using hg
    have:=hf i g hg';rw[this];have hi:i<fs.size:=(Array.getElem?_eq_some_iff.1 hg').1;exact⟨_,List.getElem?_eq_getElem (by omega)⟩
   refine⟨y,by rw[hlen,hn];rfl,fun j c hj=>?_⟩;have:=hy j c hj
   rwa [Nat.zero_add] at this
  ·cases r with
   | nil=>simp[Ty.dK] at hc
   | cons f r =>
    simp only[Ty.dK,Bool.and_eq_true,decide_eq_true_eq] at hc;obtain⟨⟨⟨h1,h2⟩,h3⟩,h4⟩:=hc;exact fields h1 h2 h3 h4 h
end
end Go.D3
namespace Go.D3
open Go Go.ChangeShapes Go.RowKit
def Ty.args:(t:Ty)->t.V->List D
 | .cons a b,(x,y)=>a.d x::b.args y
 | _,_=>[]
def Ty.e8(P:Program):Ty->List TypeId->Bool
 | .nil,[]=>true
 | .cons a b,T::r=>a.dK P (.inl T)&&P.readableRec T&&decide (T<P.types.size)&&(a.st == (match P.underlying T with | some (.struct _)=>true | _=>false))&&b.e8 P r
 | _,_=>false
section
variable{H:Type}{enc:TypeId×Value->H}{P:Program}{w w':World}
theorem Xv{A:Nat->Prop}{ty:Ty}{T:TypeId}{v:Value}{base:Nat}(hc:ty.dK P (.inl T)=true)(aO:ty.st=(match P.underlying T with | some (.struct _)=>true | _=>false))(hv:Value.okWide P w .any base T v){y:ty.V}
  (hl:v.cells.toList.length=ty.n) (h:∀j c,(ty.cs y)[j]?=some c->Rd w A (v.cells.toList.getD j undef) c):Rd w A v (ty.d y):=by
 have one:ty.st=false->(∀cs,v≠.agg cs)->Rd w A v (ty.d y):=by
  intro hs hna;have hcells:v.cells=#[v]:=by cases v<;>first | rfl | exact absurd rfl (hna _)
  rw[hcells] at h
  have:∃c,ty.cs y=[c]:=by
   cases ty<;>first | exact⟨_,rfl⟩ | cases hs
  obtain⟨c,hc⟩:=this;have hd:ty.d y=c:=by unfold Ty.d sv;rw[hs,hc];rfl
  rw[hd];exact h 0 c (by rw[hc];rfl)
 cases hs:ty.st with
 | false =>
  refine one hs fun cs hcs=>?_
  subst hcs;rw[hs] at aO;unfold Value.okWide at hv;cases ty<;>simp only[Ty.dK] at hc<;>first | cases hs | skip
  all_goals
   split at hc<;>try(cases hc;done)
   rename_i hu;rw[hu] at hv;simp[Cell.okWide,Cell.ok,hu] at hv
 | true =>
  have hu:∃fs,P.underlying T=some (.struct fs):=by
   rw[hs] at aO;split at aO
   ·exact⟨_,by assumption⟩
   ·cases aO
  obtain⟨fs,hu⟩:=hu;unfold Value.okWide at hv;rw[hu] at hv;obtain⟨cs,rfl,_,_⟩:=hv;have hd:ty.d y=.agg (ty.cs y):=by unfold Ty.d sv;rw[hs]
  rw[hd];refine .agg (by rw[Ty.pd];simpa[Value.cells] using hl) fun j c hj=>?_
  have:=h j c hj;simpa[Value.cells] using this
theorem C5{base:Nat}:∀(ty:Ty){ts:List TypeId}{vs:List Value}{ds:List (DataW H)}{ps:List MemPlace},ty.e8 P ts=true->DataW.TrodAll enc P w 0 (fun _=>true) true ts vs ds ps ->
  (∀(j:Nat)(t:TypeId)(v:Value),ts[j]?=some t->vs[j]?=some v->Value.okWide P w .any base t v) ->
  ∃y:ty.V,vs.length=(ty.args y).length/\∀(j:Nat)(d:D),(ty.args y)[j]?=some d->Rd w (ir w) (vs.getD j undef) d
 | .cons a b,T::ts,vs,ds,ps,hc,h,hv=>by
  obtain⟨v,vs',d,ds',p,q,rfl,rfl,rfl,h1,h2⟩:=trodAll_cons h;simp only[Ty.e8,Bool.and_eq_true,beq_iff_eq] at hc;obtain⟨⟨⟨⟨c1,c2⟩,c3⟩,c4⟩,c5⟩:=hc;obtain⟨fuel,hf⟩:=h1;obtain⟨y1,k1,k2⟩:=(vD a).1 c1 hf;obtain⟨y2,k3,k4⟩:=C5 b c5 h2 fun j t v' hj hv'=>hv (j+1) t v' (by simpa using hj) (by simpa using hv')
  refine⟨(y1,y2),by simp[Ty.args,k3],fun j x hx=>?_⟩;cases j with
  | zero =>
   simp[Ty.args] at hx;subst hx;exact Xv c1 c4 (hv 0 T v rfl rfl) k1 k2
  | succ j =>
   simp[Ty.args] at hx;simpa using k4 j x hx
 | .nil,[],vs,ds,ps,hc,h,hv=>by
  obtain⟨rfl,rfl,rfl⟩:=trodAll_nil h;exact⟨(),rfl,fun j x hx=>by simp[Ty.args] at hx⟩
 | .cons a b,[],vs,ds,ps,hc,h,hv=>by simp[Ty.e8] at hc
 | .nil,_::_,vs,ds,ps,hc,h,hv=>by simp[Ty.e8] at hc
 | .int _,ts,vs,ds,ps,hc,h,hv=>by cases ts<;>simp[Ty.e8] at hc
 | .bool,ts,vs,ds,ps,hc,h,hv=>by cases ts<;>simp[Ty.e8] at hc
 | .str,ts,vs,ds,ps,hc,h,hv=>by cases ts<;>simp[Ty.e8] at hc
 | .sl _,ts,vs,ds,ps,hc,h,hv=>by cases ts<;>simp[Ty.e8] at hc
theorem C4(hl:laidOutB P=true)(hb:Below w.heap.size w w'){sp:Nat->Bool}:∀(ty:Ty){ts:List TypeId}{vs:List Value}{ds:List (DataW H)}{ps:List MemPlace},ty.e8 P ts=true->DataW.TrodAll enc P w 0 (fun _=>true) true ts vs ds ps ->
  (∀p∈ps,p.block<w.heap.size)->(∀p∈ps,sp p.block=true)->DataW.TrodAll enc P w' 0 sp true ts vs ds ps
 | .cons a b,T::ts,vs,ds,ps,hc,h,hlt,hsp=>by
  obtain⟨v,vs',d,ds',p,q,rfl,rfl,rfl,h1,h2⟩:=trodAll_cons h;simp only[Ty.e8,Bool.and_eq_true,decide_eq_true_eq] at hc;obtain⟨⟨⟨⟨c1,c2⟩,c3⟩,c4⟩,c5⟩:=hc
  exact trodAll_cons_mk (WideElems.Trod_stays hl c2 c3 h1 (fun x hx=>hb.same (hlt x (List.mem_append_left _ hx))) fun x hx=>hsp x (List.mem_append_left _ hx))
   (C4 hl hb b c5 h2 (fun x hx=>hlt x (List.mem_append_right _ hx)) fun x hx=>hsp x (List.mem_append_right _ hx))
 | .nil,[],vs,ds,ps,hc,h,hlt,hsp=>by
  obtain⟨rfl,rfl,rfl⟩:=trodAll_nil h;exact trodAll_mk0
 | .cons a b,[],vs,ds,ps,hc,h,_,_=>by simp[Ty.e8] at hc
 | .nil,_::_,vs,ds,ps,hc,h,_,_=>by simp[Ty.e8] at hc
 | .int _,ts,vs,ds,ps,hc,h,_,_=>by cases ts<;>simp[Ty.e8] at hc
 | .bool,ts,vs,ds,ps,hc,h,_,_=>by cases ts<;>simp[Ty.e8] at hc
 | .str,ts,vs,ds,ps,hc,h,_,_=>by cases ts<;>simp[Ty.e8] at hc
 | .sl _,ts,vs,ds,ps,hc,h,_,_=>by cases ts<;>simp[Ty.e8] at hc
theorem NQ(hb:Below w.heap.size w w')(may:MemPlace->Prop):w.keptBut w' may:=by
 refine⟨hb.os,hb.output,fun i hi=>?_⟩;rw[hb.block i hi];cases w.heap[i]? with
 | none=>rfl
 | some o=>cases o<;>first | exact⟨rfl,rfl,rfl,fun _ _=>rfl⟩ | exact .inr ⟨rfl,rfl⟩ | rfl
end
end Go.D3
