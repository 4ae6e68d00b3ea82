/- FUNCTIONS THAT SLOTS ARE LENT TO: from a text's condition to a contract. Generic. -/
import Derived.Test.YtgieggnpnepkfaaGreatDoorFn
namespace Go.D3
open Go
def initG (tr:List Nat) (as gs:List D):List D :=
 (tr.map fun t=>match as[t]? with | some a=>a.ren (fun i=>i+tr.length) | none=>.dead)++renL (fun i=>i+tr.length) gs
inductive RM where
 | tree
 | refs
 | boxd
def resG (m:RM) (l:List D) (K:D→St→Prop) (st:St):Prop :=
 match m with
 | .tree=>absL l (fun l st=>K (contOf (retD l)) st) st
 | .refs=>(retD l).okc=true∧K (retD l) st
 | .boxd=>boxdG (retD l) K st
def gpostG (n:Nat):Nat→List D→St→Prop
 | _,[],_=>True
 | i,g::r,st=>st.cont (i+n)=g.ren (fun i=>i+n)∧gpostG n (i+1) r st
def outG (rs:List RS) (m:RM) (rc:D) (n:Nat) (gs gs':List D) (env:List D):Prop :=
 env.length=gs.length+n∧gs'.length=gs.length∧optVC (outL ⟨env,0,[]⟩ rs) fun p=>p.1∧resG m p.2 (fun c st=>c=rc.ren (fun i=>i+n)∧gpostG n 0 gs' st) ⟨env,0,[]⟩
def outE (rs:List RS) (m:RM) (Q:D→List D→Prop) (n:Nat) (gs:List D) (env:List D):Prop :=
 env.length=gs.length+n∧optVC (outL ⟨env,0,[]⟩ rs) fun p=>p.1∧resG m p.2 (fun c st=>∃ rc gs',Q rc gs'∧gs'.length=gs.length∧c=rc.ren (fun i=>i+n)∧gpostG n 0 gs' st) ⟨env,0,[]⟩
theorem resG_imp {m:RM} {l:List D} {K K':D→St→Prop} {st:St} (h:resG m l K st) (hK:∀ c st,K c st→K' c st):resG m l K' st:=by
 cases m with
 | tree=>exact absL_imp l (fun _ _ h=>hK _ _ h) h
 | refs=>exact ⟨h.1,hK _ _ h.2⟩
 | boxd =>
  simp only [resG,boxdG] at h ⊢
  split at h
  ·exact ⟨h.1,h.2.1,hK _ _ h.2.2⟩
  ·exact h.elim
theorem outG_E {rs:List RS} {m:RM} {rc:D} {n:Nat} {gs gs' env:List D} (h:outG rs m rc n gs gs' env):outE rs m (fun r g=>r=rc∧g=gs') n gs env:=by
 obtain ⟨h1,h2,h3⟩:=h
 refine ⟨h1,?_⟩
 cases ho:outL ⟨env,0,[]⟩ rs with
 | none=>rw [ho] at h3;exact h3
 | some p=>rw [ho] at h3;exact ⟨h3.1,resG_imp h3.2 fun c st hh=>⟨rc,gs',⟨rfl,rfl⟩,h2,hh⟩⟩
def okcL:List D→Bool
 | []=>true
 | a::r=>a.okc&&okcL r
theorem okcL_get:∀ {l:List D},okcL l=true→∀ {i:Nat} {a:D},l[i]?=some a→a.okc=true
 | [],_,i,a,h=>by simp at h
 | b::r,h,0,a,ha=>by simp only [okcL,Bool.and_eq_true] at h;simp at ha;subst ha;exact h.1
 | b::r,h,i+1,a,ha=>by simp only [okcL,Bool.and_eq_true] at h;simp at ha;exact okcL_get h.2 ha
theorem gpostG_get {n:Nat} {st:St}:∀ {gs:List D} {i:Nat},gpostG n i gs st→∀ j,j<gs.length→st.cont (i+j+n)=(nth gs j).ren (fun i=>i+n)
 | [],_,_,j,h=>by simp at h
 | g::r,i,⟨h1,h2⟩,0,_=>h1
 | g::r,i,⟨h1,h2⟩,j+1,h=>by
  have:=gpostG_get h2 j (by simpa using h)
  rw [show i+1+j+n=i+(j+1)+n by omega] at this
  exact this
theorem cont0 (env:List D) (k:Nat):(⟨env,0,[]⟩:St).cont k=if k<1000 then nth env k else .dead:=by
 show (if k<1000 then nth env k else if k<1000+0 then nth [] _ else D.dead)=_
 by_cases hk:k<1000
 ·rw [if_pos hk,if_pos hk]
 ·rw [if_neg hk,if_neg hk,if_neg (by omega)]
theorem nth_append_left:∀ {a b:List D} {k:Nat},k<a.length→nth (a++b) k=nth a k
 | [],_,k,h=>by simp at h
 | x::a,b,0,_=>rfl
 | x::a,b,k+1,h=>nth_append_left (a:=a) (by simpa using h)
theorem nth_append_right:∀ {a b:List D} {k:Nat},nth (a++b) (k+a.length)=nth b k
 | [],_,k=>rfl
 | x::a,b,k=>by
  show nth (x::(a++b)) (k+a.length+1)=_
  exact nth_append_right (a:=a)
theorem ret_fnO {P:Program} {f:FuncId} {fn:Func} {c:C} {tr:List Nat} {as gs:List D} {env:List D} {Q:D→List D→Prop} {rs:List RS} (m:RM) (O:List D→Prop) (hO:∀ env,O env→outE rs m Q tr.length gs env) (hf:P.funcs[f]?=some fn) (hnm:(fn.name == "runtime.NumGoroutine")=false)
  (hok:fnOk P fn tr c as.length rs=true) (ha:okcL as=true) (hl:as.length<500∧gs.length<400) (henv:env=initG tr as gs) (hv:vcC P c O ⟨fun _ _=>False,O⟩ env):RetE P f as gs Q:=by
 subst henv
 simp only [fnOk,Bool.and_eq_true,decide_eq_true_eq] at hok
 obtain ⟨⟨⟨hfit,htr⟩,hna⟩,hres⟩:=hok
 cases hb:fn.body with
 | none=>rw [hb] at hfit;cases hfit
 | some code =>
 rw [hb] at hfit
 simp only at hfit
 refine ⟨by simp only [bodyF,hf,hb,hnm,Option.isSome_some,Bool.not_false,Bool.and_self],?_⟩
 intro w A vs gv Fs hgl hA hvs hpre hgpre hgemp hFd hFs
 have htr':=htr
 simp only [okTr,Bool.and_eq_true,List.all_eq_true,decide_eq_true_eq] at htr'
 obtain ⟨⟨hnd,htlt⟩,hfew⟩:=htr'
 generalize hσ:(fun i=>i+tr.length)=σ
 have hσi:∀ i,σ i=i+tr.length:=fun i=>by rw [← hσ]
 have hinj:∀ i j,σ i=σ j→i=j:=fun i j h=>by rw [hσi,hσi] at h;omega
 let tm:Array Value:=vs++Array.replicate (fn.ntmps-vs.size) undef
 have htm:tm.size=fn.ntmps:=by simp only [tm,Array.size_append,Array.size_replicate];omega
 have hgetv:∀ i,i<as.length→tm.getD i undef=vs.getD i undef:=by
  intro i hi
  simp only [tm,Array.getD_eq_getD_getElem?]
  rw [Array.getElem?_append_left (by omega)]
 let cx:Ctx:=⟨w,fun b=>∃ j,Fs j b,A,fun k=>gv (k-tr.length),fun b hb=>⟨hA b hb,fun ⟨j,hj⟩=>(hFs j b hj).2 hb⟩,hgl,[]⟩
 let vl:Nat→Value:=fun k=>match tr[k]? with | some t=>tm.getD t undef | none=>gv (k-tr.length)
 let fp:Nat→Nat→Prop:=fun k b=>tr.length≤k∧k<tr.length+gs.length∧Fs (k-tr.length) b
 generalize hct0:(⟨initG tr as gs,0,[]⟩:St).cont=ct
 have hlen0:(tr.map fun t=>match as[t]? with | some a=>a.ren (fun i=>i+tr.length) | none=>.dead).length=tr.length:=by simp
 have hgh0:∀ k,tr.length≤k→vl k=gv (k-tr.length):=fun k hk=>by
  show (match tr[k]? with | some t=>tm.getD t undef | none=>gv (k-tr.length))=_
  rw [List.getElem?_eq_none hk]
 have hctg:∀ i,i<gs.length→ct (σ i)=(nth gs i).ren σ:=fun i hi=>by
  rw [← hct0,cont0,hσi,if_pos (by omega)]
  unfold initG
  have:=nth_append_right (a:=tr.map fun t=>match as[t]? with | some a=>a.ren (fun i=>i+tr.length) | none=>D.dead) (b:=renL (fun i=>i+tr.length) gs) (k:=i)
  rw [hlen0] at this
  rw [this,nth_renL,hσ]
 have hcto:∀ k,tr.length+gs.length≤k→ct k=.dead:=fun k hk=>by
  rw [← hct0,cont0]
  split
  ·exact nth_over _ _ (by unfold initG;simp [renL_length];omega)
  ·rfl
 have hctp:∀ k,k<tr.length→ct k=.dead∨∃ t a,tr[k]?=some t∧as[t]?=some a∧ct k=a.ren σ:=fun k hk=>by
  rw [← hct0,cont0,if_pos (by omega)]
  unfold initG
  rw [nth_append_left (by rw [hlen0];exact hk),nth_getD,List.getElem?_map,List.getElem?_eq_getElem hk]
  simp only [Option.map_some,Option.getD_some]
  cases ht:as[tr[k]]? with
  | none=>exact .inl rfl
  | some a=>exact .inr ⟨tr[k],a,rfl,ht,by rw [hσ]⟩
 have hctne:∀ i,nth gs i≠.dead→ct (σ i)=(nth gs i).ren σ:=fun i hi=>hctg i (Classical.byContradiction fun hh=>hi (nth_over gs i (by omega)))
 have hvlg:∀ i,vl (σ i)=gv i:=fun i=>by rw [hσi,hgh0 _ (by omega),Nat.add_sub_cancel]
 have hstA:∀ b,A b→stab cx fp (fun _=>False) w b:=fun b hb=>⟨⟨hA b hb,fun _=>hb⟩,fun h=>h,fun k hk=>(hFs _ b hk.2.2).2 hb⟩
 have htri:=nodupN_inj hnd
 have h0:Bm cx fn.ntmps tr (initG tr as gs) { tmps:=tm,defers:=[] } w:=by
  refine ⟨⟨vl,fp,fun _=>False,?_,fun k t hk _=>by simp only [vl,hk],fun i t hi _=>by simp at hi,fun k h1 _=>hgh0 k h1⟩,rfl,fun j hj=>by simp at hj,htm,rfl⟩
  rw [hct0]
  refine ⟨fun k=>?_,fun i j hij b hi hj=>hFd _ _ b (by have:=hi.1;have:=hj.1;omega) hi.2.2 hj.2.2,fun _ _ _ h=>h,fun k hk b hb=>?_,fun k b hb=>⟨(hFs _ b hb.2.2).1,.inl ⟨_,hb.2.2⟩⟩,fun _ h=>h.elim,Nat.le_refl _,fun _ _ _=>rfl,rfl,rfl,rfl⟩
  ·by_cases hk:k<tr.length
   ·rcases hctp k hk with hc | ⟨t,a,h1,h2,hc⟩
    ·rw [hc];exact Pl.dead
    ·rw [hc]
     have hlt:=(List.getElem?_eq_some_iff.1 h2).1
     have hao:=okcL_get ha h2
     rw [okc_cont (okc_ren hao)]
     have hv:vl k=vs.getD t undef:=by
      show (match tr[k]? with | some t=>tm.getD t undef | none=>_)=_
      rw [h1];exact hgetv t hlt
     rw [hv]
     have:=(hpre t a h2).ren (Q:=fun _=>True) (σ:=σ) (R':=RefOk w ct vl) (refs_all (fun _=>trivial) _) fun v d _ hr=>hr.ren hctne fun i _=>hvlg i
     exact this.mono (Q:=fun _=>True) hstA (fun _ _=>rfl) (refs_all (fun _=>trivial) _) fun _ _ _ h=>h
   ·by_cases hk2:k<tr.length+gs.length
    ·obtain ⟨i,rfl⟩:∃ i,k=σ i:=⟨k-tr.length,by rw [hσi];omega⟩
     rw [hctg i (by rw [hσi] at hk2;omega),hvlg]
     have:=(hgpre i).ren (Q:=fun _=>True) (σ:=σ) (R':=RefOk w ct vl) (refs_all (fun _=>trivial) _) fun v d _ hr=>hr.ren hctne fun i _=>hvlg i
     exact this.mono (Q:=fun _=>True) hstA (fun _ _=>rfl) (fun _ _=>rfl) (fun b hb=>⟨by omega,hk2,by rw [hσi,Nat.add_sub_cancel];exact hb⟩) (refs_all (fun _=>trivial) _) fun _ _ _ h=>h
    ·rw [hcto k (by omega)];exact Pl.dead
  ·obtain ⟨h1,h2,h3⟩:=hb
   have e:k=σ (k-tr.length):=by rw [hσi];omega
   rw [e,hctg _ (by omega),isObj_ren] at hk
   exact hgemp _ hk b h3
 have fin:∀ a' w' env,O env→Bm cx fn.ntmps tr env a' w' →
   a'.defers=[]∧∃ v,(results fn a'.tmps).run P w'=.ok v w'∧∃ (rc:D) (gs':List D) (u:Value) (F:Nat→Prop) (gv':Nat→Value) (Fs':Nat→Nat→Prop),Q rc gs'∧Ending.returned v=.returned u∧w.heap.size≤w'.heap.size ∧
    ContOk w' (fun b=>A b∨(w.heap.size≤b∧b<w'.heap.size∧¬ F b∧∀ j,¬ Fs' j b)) (RefOk w' (nth gs') gv') u F rc∧(rc.isObj=false→∀ b,¬ F b) ∧
    (∀ k,ContOk w' (fun b=>A b∨(w.heap.size≤b∧b<w'.heap.size∧¬ F b∧∀ j,¬ Fs' j b)) (RefOk w' (nth gs') gv') (gv' k) (Fs' k) (nth gs' k))∧(∀ k,(nth gs' k).isObj=false→∀ b,¬ Fs' k b) ∧
    (∀ k,nth gs k≠.dead→gv' k=gv k) ∧
    (∀ b,F b→b<w'.heap.size∧(w.heap.size≤b∨∃ j,Fs j b)∧∀ j,¬ Fs' j b)∧(∀ j b,Fs' j b→b<w'.heap.size∧(w.heap.size≤b∨∃ j,Fs j b))∧(∀ i j b,i≠j→Fs' i b→¬ Fs' j b) ∧
    (∀ b,b<w.heap.size→(∀ j,¬ Fs j b)→w'.heap[b]?=w.heap[b]?)∧w'.os=w.os∧w'.tape=w.tape∧w'.output=w.output:=by
  intro a' w' env ho hB
  obtain ⟨hel,ho⟩:=hO env ho
  cases hol:outL ⟨env,0,[]⟩ rs with
  | none=>rw [hol] at ho;exact ho.elim
  | some p =>
  rw [hol] at ho
  obtain ⟨hs,hab⟩:=ho
  obtain ⟨vl',fp',G',hp,htr2,_,hgh⟩:=hB.ex
  obtain ⟨us,hrun,hlen,hpl⟩:=outs_ok (P:=P) hp (fun j t hj=>htr2 j t hj (by simp)) fn.results.toList rs hres hol hs
  have hrun':=results_list hrun
  have hdd0:∀ k,tr.length+gs.length≤k→(⟨env,0,[]⟩:St).cont k=.dead:=fun k hk=>by
   rw [cont0];split
   ·exact nth_over _ _ (by omega)
   ·rfl
  have key:∃ (c:D) (st2:St) (fp2:Nat→Nat→Prop) (G2 F:Nat→Prop),(∃ rc gs',Q rc gs'∧gs'.length=gs.length∧c=rc.ren (fun i=>i+tr.length)∧gpostG tr.length 0 gs' st2)∧Hp cx st2.cont vl' fp2 G2 w'∧ContOk w' (stab cx fp2 G2 w') (RefOk w' st2.cont vl') (retV us) F c ∧
    (c.isObj=false→∀ b,¬ F b)∧(∀ b,F b→G2 b)∧∀ k,tr.length+gs.length≤k→st2.cont k=.dead:=by
   have hplR:Pl w' (stab cx fp' G' w') (RefOk w' (⟨env,0,[]⟩:St).cont vl') (retV us) (retD p.2):=by
    match us,p.2,hlen,hpl with
    | [],[],_,_=>exact .tup rfl (fun j x hx=>by simp at hx)
    | [v],[x],_,hpl=>exact hpl 0 x rfl
    | a::b::r,x::y::l,hl,hpl=>exact .tup (by simpa using hl) hpl
   cases m with
   | tree =>
    obtain ⟨l',st',fp2,G2,Ls,hK,htk,hll,hown,hLd,_⟩:=absL_sound (A:=stab cx fp' G' w') _ hab hp hB.wf (fun _ h=>h) hpl
    let F:Nat→Prop:=fun b=>∃ j,Ls j b
    have hownR:Own w' (stab cx fp2 G2 w') (retV us) (retD l') F:=by
     have hul:us.length=l'.length:=by rw [hlen,hll]
     match us,l',hul,hown,hLd with
     | [],[],_,_,_=>exact Own.tup (fun _ _=>False) rfl (fun j x hx=>by simp at hx) (fun _ _ h=>h.elim) (fun _ _ _ _ h=>h.elim)
     | [v],[x],_,hown,_ =>
      have:=(hown 0 x rfl).1
      exact this.mono (fun _ h=>h) (fun _ _=>rfl) (fun _ _=>rfl) fun b hb=>⟨0,hb⟩
     | a::b::r,x::y::l,hul,hown,hLd =>
      refine Own.tup (fun j b=>Ls j b) (by simpa using hul) (fun j z hz=>((hown j z hz).1).mono (fun _ h=>h) (fun _ _=>rfl) (fun _ _=>rfl) fun _ h=>h) (fun j b hb=>⟨j,hb⟩) (fun i j b hij hi hj=>hLd i j b hij hi hj)
    obtain ⟨c1,c2⟩:=contOf_ok (R:=RefOk w' st'.cont vl') hownR
    by_cases hob:(contOf (retD l')).isObj=true
    ·exact ⟨_,st',fp2,G2,F,hK,htk.hp,c1,fun hh=>(by rw [hob] at hh;cases hh),fun b ⟨j,hb⟩=>(htk.hF b ⟨j,hb⟩).1,fun k hk=>htk.dd k (hdd0 k hk)⟩
    ·exact ⟨_,st',fp2,G2,fun _=>False,hK,htk.hp,c2 (by simpa using hob),fun _ _ h=>h,fun _ h=>h.elim,fun k hk=>htk.dd k (hdd0 k hk)⟩
   | refs =>
    exact ⟨_,_,fp',G',fun _=>False,hab.2,hp,(okc_cont hab.1).2 hplR,fun _ _ h=>h,fun _ h=>h.elim,hdd0⟩
   | boxd =>
    simp only [resG] at hab
    obtain ⟨c,st2,fp2,G2,F,h1,h2,h3,h4,h5,h6,_,_⟩:=boxd_sound hp hB.wf hplR hab
    exact ⟨c,st2,fp2,G2,F,h1,h2,h3,h4,h5,fun k hk=>h6 k (hdd0 k hk)⟩
  obtain ⟨c,st2,fp2,G2,F,⟨rc,gs',hQ,hgl,hc,hgp⟩,hp2,hcok,hce,hFG,hdd⟩:=key
  rw [hσ] at hc
  subst hc
  have hct2:∀ k,st2.cont (σ k)=(nth gs' k).ren σ:=fun k=>by
   by_cases hk:k<gs'.length
   ·have:=gpostG_get hgp k hk
    rw [Nat.zero_add,← hσi k,hσ] at this
    exact this
   ·rw [hdd _ (by rw [hσi];omega),nth_over gs' k (by omega)];rfl
  have hvl2:∀ k,nth gs' k≠.dead→vl' (σ k)=gv k:=fun k hk=>by
   have hkl:k<gs'.length:=Classical.byContradiction fun hh=>hk (nth_over gs' k (by omega))
   rw [hgh _ (by rw [hσi];omega) (by rw [hσi];omega)]
   show gv (σ k-tr.length)=_
   rw [hσi,Nat.add_sub_cancel]
  let Fs':Nat→Nat→Prop:=fun k b=>k<gs'.length∧fp2 (σ k) b
  have hst:∀ b,stab cx fp2 G2 w' b→A b∨(w.heap.size≤b∧b<w'.heap.size∧¬ F b∧∀ j,¬ Fs' j b):=by
   rintro b ⟨⟨q1,q2⟩,q3,q4⟩
   by_cases hbo:b<w.heap.size
   ·exact .inl (q2 hbo)
   ·exact .inr ⟨by omega,q1,fun hF=>q3 (hFG b hF),fun j hj=>q4 _ hj.2⟩
  refine ⟨hB.defers,_,hrun',rc,gs',_,F,gv,Fs',hQ,rfl,hp2.size,?_,fun hh=>hce (by rw [isObj_ren];exact hh),fun k=>?_,fun k hk b hb=>?_,fun _ _=>rfl,fun b hb=>?_,fun j b hb=>?_,fun i j b hij hi hj=>?_,fun b hb hn=>hp2.same b hb fun ⟨j,hj⟩=>hn j hj,hp2.os,hp2.tape,hp2.output⟩
  ·exact (hcok.unren hinj hct2 hvl2).mono (Q:=fun _=>True) hst (fun _ _=>rfl) (fun _ _=>rfl) (fun _ h=>h) (refs_all (fun _=>trivial) _) fun _ _ _ h=>h
  ·by_cases hkd:nth gs' k=.dead
   ·rw [hkd];exact Pl.dead
   ·have hkl:k<gs'.length:=Classical.byContradiction fun hh=>hkd (nth_over gs' k (by omega))
    have:=hp2.ok (σ k)
    rw [hct2 k,hvl2 k hkd] at this
    exact (this.unren hinj hct2 hvl2).mono (Q:=fun _=>True) hst (fun _ _=>rfl) (fun _ _=>rfl) (fun b hb=>⟨hkl,hb⟩) (refs_all (fun _=>trivial) _) fun _ _ _ h=>h
  ·exact hp2.emp _ (by rw [hct2 k,isObj_ren];exact hk) b hb.2
  ·obtain ⟨q1,q2⟩:=hp2.ltG b (hFG b hb)
   exact ⟨q1,q2.symm,fun j hj=>hp2.disG _ b hj.2 (hFG b hb)⟩
  ·obtain ⟨q1,q2⟩:=hp2.lt _ b hb.2
   exact ⟨q1,q2.symm⟩
  ·exact hp2.dis _ _ (fun he=>hij (hinj _ _ he)) b hi.2 hj.2
 refine calls_of_wp hf hb ?_
 exact vc_sound htr c code hfit hv h0 (fun a w env h1 h2=>fin a w env h1 h2) (fun _ _ _ _ h _=>h.elim) (fun a w env h1 h2=>fin a w env h1 h2)
theorem ret_fnG {P:Program} {f:FuncId} {fn:Func} {c:C} {tr:List Nat} {as gs gs':List D} {env:List D} {rc:D} {rs:List RS} (m:RM) (hf:P.funcs[f]?=some fn) (hnm:(fn.name == "runtime.NumGoroutine")=false)
  (hok:fnOk P fn tr c as.length rs=true) (ha:okcL as=true) (hl:as.length<500∧gs.length<400) (henv:env=initG tr as gs) (hv:vcC P c (outG rs m rc tr.length gs gs') ⟨fun _ _=>False,outG rs m rc tr.length gs gs'⟩ env):RetG P f as gs rc gs' :=
 ret_fnO m (outG rs m rc tr.length gs gs') (fun _ h=>outG_E h) hf hnm hok ha hl henv hv
theorem ret_fnE {P:Program} {f:FuncId} {fn:Func} {c:C} {tr:List Nat} {as gs:List D} {env:List D} {Q:D→List D→Prop} {rs:List RS} (m:RM) (hf:P.funcs[f]?=some fn) (hnm:(fn.name == "runtime.NumGoroutine")=false)
  (hok:fnOk P fn tr c as.length rs=true) (ha:okcL as=true) (hl:as.length<500∧gs.length<400) (henv:env=initG tr as gs) (hv:vcC P c (outE rs m Q tr.length gs) ⟨fun _ _=>False,outE rs m Q tr.length gs⟩ env):RetE P f as gs Q :=
 ret_fnO m (outE rs m Q tr.length gs) (fun _ h=>h) hf hnm hok ha hl henv hv
end Go.D3
