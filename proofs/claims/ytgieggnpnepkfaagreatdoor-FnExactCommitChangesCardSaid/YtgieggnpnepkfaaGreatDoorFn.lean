/- FUNCTIONS: from a text's condition to a contract. Generic. -/
import Derived.Test.YtgieggnpnepkfaaGreatDoorSound
namespace Go.D3
open Go
def Arg.c0 (g:Nat):Arg→D
 | .v x=>x
 | .own x=>.o x
 | .io x _=>opv g x
def Arg.g0:Arg→D
 | .io x _=>x
 | _=>.dead
def Arg.isIo:Arg→Bool
 | .io _ _=>true
 | _=>false
def Arg.ok:Arg→Bool
 | .v x=>x.okc
 | .own _=>true
 | .io (.box _) _=>true
 | .io (.o x) _=>(expo 0 [] x).okc
 | .io _ _=>false
def initE (tr:List Nat) (as:List Arg):List D :=
 (tr.map fun t=>match as[t]? with | some a=>a.c0 (tr.length+t) | none=>.dead)++(if as.any Arg.isIo=true then as.map Arg.g0 else [])
inductive RS where
 | t (j:Nat)
 | c (j n:Nat) (agg:Bool)
def outD (st:St):RS→Option PR
 | .t j=>some ((st.rd (.v j)).gate=true,(st.rd (.v j)).core)
 | .c j n true=>g1 (st.rd (.v j)) (ldaR n st.cont (st.rd (.v j)).core)
 | .c j _ false=>g1 (st.rd (.v j)) (ldR st.cont (st.rd (.v j)).core)
def outL (st:St):List RS→Option (Prop×List D)
 | []=>some (True,[])
 | r::rs=>(outD st r).bind fun p=>(outL st rs).bind fun q=>some (p.1∧q.1,p.2::q.2)
def retD:List D→D
 | [d]=>d
 | l=>.tup l
def gpost (g:Nat):List Arg→St→Prop
 | [],_=>True
 | .io _ y::r,st=>(st.cont g=y∧y.refs noRef)∧gpost (g+1) r st
 | _::r,st=>gpost (g+1) r st
def out (rs:List RS) (res:D) (g:Nat) (as:List Arg) (env:List D):Prop :=
 optVC (outL ⟨env,0,[]⟩ rs) fun p=>p.1∧absL p.2 (fun l st=>retD l=res∧gpost g as st) ⟨env,0,[]⟩
def resOk (P:Program) (tr:List Nat):List ResultVar→List RS→Bool
 | [],[]=>true
 | .tmp t::l,.t j::r=>decide (tr[j]?=some t)&&resOk P tr l r
 | .cell a t::l,.c j n true::r=>decide (tr[j]?=some a)&&aggT P t&&sizeT P t n&&resOk P tr l r
 | .cell a t::l,.c j _ false::r=>decide (tr[j]?=some a)&&cellT P t&&resOk P tr l r
 | _,_=>false
def fnOk (P:Program) (fn:Func) (tr:List Nat) (c:C) (na:Nat) (rs:List RS):Bool :=
 (match fn.body with | some code=>fitC P fn.ntmps tr code c | none=>false)&&okTr fn.ntmps tr&&decide (na≤fn.ntmps)&&resOk P tr fn.results.toList rs
theorem nth_getD:∀ (l:List D) (k:Nat),nth l k=(l[k]?).getD .dead
 | [],_=>rfl
 | a::l,0=>rfl
 | a::l,k+1=>by simp only [nth,List.getElem?_cons_succ];exact nth_getD l k
def argsOk:List Arg→Bool
 | []=>true
 | a::r=>a.ok&&argsOk r
theorem argsOk_get:∀ {l:List Arg},argsOk l=true→∀ {i:Nat} {a:Arg},l[i]?=some a→a.ok=true
 | [],_,i,a,h=>by simp at h
 | b::r,h,0,a,ha=>by simp only [argsOk,Bool.and_eq_true] at h;simp at ha;subst ha;exact h.1
 | b::r,h,i+1,a,ha=>by simp only [argsOk,Bool.and_eq_true] at h;simp at ha;exact argsOk_get h.2 ha
theorem gpost_get {st:St}:∀ {as:List Arg} {g:Nat},gpost g as st→∀ {i:Nat} {x y:D},as[i]?=some (.io x y)→st.cont (g+i)=y∧y.refs noRef
 | [],_,_,i,x,y,hi=>by simp at hi
 | a::r,g,h,0,x,y,hi=>by
  simp at hi
  subst hi
  exact h.1
 | a::r,g,h,i+1,x,y,hi=>by
  simp at hi
  have h':gpost (g+1) r st:=by cases a<;>first | exact h | exact h.2
  have:=gpost_get h' hi
  rwa [show g+1+i=g+(i+1) by omega] at this
section
variable {P:Program} {cx:Ctx} {vl:Nat→Value} {fp:Nat→Nat→Prop} {G:Nat→Prop} {w:World}
def resOf (tmps:Array Value):ResultVar→Sem Value
 | .tmp t=>pure (tmps.getD t undef)
 | .cell a t=>do loadVar t (← asAddr (tmps.getD a undef))
def retV:List Value→Value
 | [v]=>v
 | vs=>.tuple vs.toArray
theorem results_list {fn:Func} {tmps:Array Value} {vs:List Value} (h:(fn.results.toList.mapM (resOf tmps)).run P w=.ok vs w) :
  (results fn tmps).run P w=.ok (retV vs) w:=by
 unfold results
 rw [Array.mapM_eq_mapM_toList]
 generalize hF:List.mapM (m:=Sem) _ fn.results.toList=m
 have hm:m=fn.results.toList.mapM (resOf tmps):=by
  rw [← hF];congr 1
 rw [hm]
 simp only [Sem.run_bind,Sem.run_map,h,Result.andThen_ok,Sem.run_pure]
 match vs with
 | []=>rfl
 | [v]=>rfl
 | a::b::r=>simp [retV]
theorem outs_ok {tr:List Nat} {tmps:Array Value} {st:St} (h:Hp cx st.cont vl fp G w) (htr:∀ (j t:Nat),tr[j]?=some t→tmps.getD t undef=vl j):∀ (l:List ResultVar) (rs:List RS) {p:Prop×List D},resOk P tr l rs=true→outL st rs=some p→p.1 →
  ∃ vs:List Value,(l.mapM (resOf tmps)).run P w=.ok vs w∧vs.length=p.2.length∧∀ (j:Nat) (x:D),p.2[j]?=some x→Pl w (stab cx fp G w) (RefOk w st.cont vl) (vs.toArray.getD j undef) x
 | [],[],p,_,ho,_=>by
  simp only [outL,Option.some.injEq] at ho
  subst ho
  exact ⟨[],rfl,rfl,fun j x hx=>by simp at hx⟩
 | [],_::_,p,hr,_,_=>by simp [resOk] at hr
 | _::_,[],p,hr,_,_=>by simp [resOk] at hr
 | r0::l,r::rs,p,hr,ho,hs=>by
  simp only [outL,Option.bind_eq_some_iff] at ho
  obtain ⟨p1,h1,q,h2,h3⟩:=ho
  injection h3 with h3
  subst h3
  have hok:∀ j,∃ F,ContOk w (stab cx fp G w) (RefOk w st.cont vl) (vl j) F (st.cont j):=fun j=>⟨_,h.ok j⟩
  have one:∃ v,(resOf tmps r0).run P w=.ok v w∧Pl w (stab cx fp G w) (RefOk w st.cont vl) v p1.2∧resOk P tr l rs=true:=by
   have slot:∀ {j t:Nat},tr[j]?=some t→PlG w (stab cx fp G w) (RefOk w st.cont vl) (tmps.getD t undef) (st.rd (.v j)):=fun {j t} hj=>by
    rw [htr j t hj];exact opv_ok (h.ok j)
   cases r0 with
   | tmp t =>
    cases r with
    | t j =>
     simp only [resOk,Bool.and_eq_true,decide_eq_true_eq] at hr
     simp only [outD,Option.some.injEq] at h1
     subst h1
     exact ⟨_,rfl,(slot hr.1).1 hs.1,hr.2⟩
    | c j n a=>simp [resOk] at hr
   | cell a t =>
    cases r with
    | t j=>simp [resOk] at hr
    | c j n ag =>
     cases ag with
     | true =>
      simp only [resOk,Bool.and_eq_true,decide_eq_true_eq] at hr
      simp only [outD] at h1
      obtain ⟨s,h4,h5⟩:=g1_some (side:=p1.1) (d:=p1.2) h1
      rw [h5] at hs
      obtain ⟨b,off,cs,e1,e2,e3,e4⟩:=lda_run (ob:=st.cont) (fun _ _=>rfl) hok ((slot hr.1.1.1).1 hs.1.1) h4 hs.1.2
      refine ⟨.agg cs.toArray,?_,e4,hr.2⟩
      have hl:=run_loadCells_list (P:=P) w ⟨b,off,none⟩ cs (fun j v hj=>by
       have hadd:(⟨b,off,none⟩:Addr).add j=⟨b,off+j,none⟩:=by unfold Addr.add;split<;>simp_all
       rw [hadd];exact e3 j v hj)
      simp [resOf,e1,asAddr,loadVar,isAgg_agg hr.1.1.2,sizeOf_run hr.1.2,← e2,hl]
     | false =>
      simp only [resOk,Bool.and_eq_true,decide_eq_true_eq] at hr
      simp only [outD] at h1
      obtain ⟨s,h4,h5⟩:=g1_some (side:=p1.1) (d:=p1.2) h1
      rw [h5] at hs
      obtain ⟨b,off,u,e1,e2,e3⟩:=ld_run (ob:=st.cont) (fun _ _=>rfl) hok ((slot hr.1.1).1 hs.1.1) h4
      refine ⟨u,?_,e3,hr.2⟩
      simp [resOf,e1,asAddr,loadVar,isAgg_cell hr.1.2,e2]
  obtain ⟨v,k1,k2,k3⟩:=one
  obtain ⟨vs,k4,k5,k6⟩:=outs_ok h htr l rs k3 h2 hs.2
  refine ⟨v::vs,?_,by simp [k5],fun j x hx=>?_⟩
  ·rw [List.mapM_cons]
   simp only [Sem.run_bind,k1,Result.andThen_ok,k4,Sem.run_pure]
  ·cases j with
   | zero=>simp at hx;subst hx;exact k2
   | succ j =>
    simp at hx
    have:=k6 j x hx
    simpa using this
end
theorem expo_okc {z:D} (h:(expo 0 [] z).okc=true) (g:Nat):(expo g [] z).okc=true:=by
 cases z
 case ptr l=>cases l<;>rfl
 case fn f l=>cases l<;>rfl
 case vw x=>exact h
 all_goals rfl
theorem initE_get {tr:List Nat} {as:List Arg} (k:Nat):(⟨initE tr as,0,[]⟩:St).cont k=.dead∨(∃ t a,tr[k]?=some t∧as[t]?=some a∧(⟨initE tr as,0,[]⟩:St).cont k=a.c0 (tr.length+t)) ∨
  ∃ t x y,k=tr.length+t∧as[t]?=some (.io x y)∧(⟨initE tr as,0,[]⟩:St).cont k=x:=by
 have hc:(⟨initE tr as,0,[]⟩:St).cont k=if k<1000 then ((initE tr as)[k]?).getD .dead else .dead:=by
  show (if k<1000 then nth (initE tr as) k else if k<1000+0 then nth [] _ else D.dead)=_
  rw [nth_getD]
  by_cases hk:k<1000
  ·rw [if_pos hk,if_pos hk]
  ·rw [if_neg hk,if_neg hk,if_neg (by omega)]
 generalize (⟨initE tr as,0,[]⟩:St).cont k=X at hc ⊢
 by_cases hk:k<1000
 ·rw [if_pos hk] at hc
  by_cases hkt:k<tr.length
  ·unfold initE at hc
   rw [List.getElem?_append_left (by simpa using hkt),List.getElem?_map,List.getElem?_eq_getElem hkt] at hc
   simp only [Option.map_some,Option.getD_some] at hc
   cases ha:as[tr[k]]? with
   | none=>rw [ha] at hc;exact .inl hc
   | some a=>rw [ha] at hc;exact .inr (.inl ⟨tr[k],a,List.getElem?_eq_getElem hkt,ha,hc⟩)
  ·unfold initE at hc
   rw [List.getElem?_append_right (by simpa using hkt),List.length_map] at hc
   split at hc
   ·rw [List.getElem?_map] at hc
    cases ha:as[k-tr.length]? with
    | none=>rw [ha] at hc;exact .inl hc
    | some a =>
     rw [ha] at hc
     cases a with
     | io x y=>exact .inr (.inr ⟨k-tr.length,x,y,by omega,ha,hc⟩)
     | _=>exact .inl hc
   ·simp at hc;exact .inl hc
 ·rw [if_neg hk] at hc;exact .inl hc
theorem initE_io {tr:List Nat} {as:List Arg} (htl:tr.length+as.length<1000) {t:Nat} {x y:D} (h:as[t]?=some (.io x y)):(⟨initE tr as,0,[]⟩:St).cont (tr.length+t)=x:=by
 have ht:=(List.getElem?_eq_some_iff.1 h).1
 show (if tr.length+t<1000 then nth (initE tr as) (tr.length+t) else _)=_
 rw [if_pos (by omega),nth_getD]
 unfold initE
 have hany:as.any Arg.isIo=true:=by
  rw [List.any_eq_true];exact ⟨_,List.mem_of_getElem? h,rfl⟩
 rw [if_pos hany,List.getElem?_append_right (by simp),List.length_map,List.getElem?_map,show tr.length+t-tr.length=t by omega,h]
 rfl
theorem initE_tr {tr:List Nat} {as:List Arg} (htl:tr.length<1000) {k t:Nat} {a:Arg} (hk:tr[k]?=some t) (h:as[t]?=some a):(⟨initE tr as,0,[]⟩:St).cont k=a.c0 (tr.length+t):=by
 have hlt:=(List.getElem?_eq_some_iff.1 hk).1
 show (if k<1000 then nth (initE tr as) k else _)=_
 rw [if_pos (by omega),nth_getD]
 unfold initE
 rw [List.getElem?_append_left (by simpa using hlt),List.getElem?_map,hk]
 simp only [Option.map_some,Option.getD_some,h]
theorem ret_fn {P:Program} {f:FuncId} {fn:Func} {c:C} {tr:List Nat} {as:List Arg} {env:List D} {res:D} {rs:List RS} (hf:P.funcs[f]?=some fn) (hok:fnOk P fn tr c as.length rs=true) (ha:argsOk as=true) (hl:as.length<500)
  (henv:env=initE tr as) (hv:vcC P c (out rs res tr.length as) ⟨fun _ _=>False,out rs res tr.length as⟩ env):Ret P f as res:=by
 subst henv
 simp only [fnOk,Bool.and_eq_true,decide_eq_true_eq] at hok
 obtain ⟨⟨⟨hfit,htr⟩,hna⟩,hres⟩:=hok
 cases hb:fn.body with
 | none=>rw [hb] at hfit;cases hfit
 | some code =>
 rw [hb] at hfit
 simp only at hfit
 intro w A vs Fs hgl hA hvs hpre hFd hFs
 have htr':=htr
 simp only [okTr,Bool.and_eq_true,List.all_eq_true,decide_eq_true_eq] at htr'
 obtain ⟨⟨hnd,htlt⟩,hfew⟩:=htr'
 let tm:Array Value:=vs++Array.replicate (fn.ntmps-vs.size) undef
 have htm:tm.size=fn.ntmps:=by simp only [tm,Array.size_append,Array.size_replicate];omega
 have hgetv:∀ i,i<as.length→tm.getD i undef=vs.getD i undef:=by
  intro i hi
  simp only [tm,Array.getD_eq_getD_getElem?]
  rw [Array.getElem?_append_left (by omega)]
 let cx:Ctx:=⟨w,fun b=>∃ j,Fs j b,A,fun k=>vs.getD (k-tr.length) undef,fun b hb=>⟨hA b hb,fun ⟨j,hj⟩=>(hFs j b hj).2.1 hb⟩,hgl,[]⟩
 let vl:Nat→Value:=fun k=>match tr[k]? with | some t=>tm.getD t undef | none=>vs.getD (k-tr.length) undef
 let fp:Nat→Nat→Prop:=fun k b=>(∃ t x,tr[k]?=some t∧as[t]?=some (.own x)∧Fs t b)∨∃ t x y,k=tr.length+t∧as[t]?=some (.io x y)∧Fs t b
 have hfpF:∀ k b,fp k b→∃ j,Fs j b:=by
  rintro k b (⟨t,x,_,_,h⟩ | ⟨t,x,y,_,_,h⟩)<;>exact ⟨t,h⟩
 have hgv:∀ k,tr.length≤k→vl k=vs.getD (k-tr.length) undef:=fun k hk=>by
  show (match tr[k]? with | some t=>tm.getD t undef | none=>_)=_
  rw [List.getElem?_eq_none hk]
 have hslot:∀ k t,tr[k]?=some t→t<as.length→vl k=vs.getD t undef:=fun k t hk ht=>by
  show (match tr[k]? with | some t=>tm.getD t undef | none=>_)=_
  rw [hk];exact hgetv t ht
 have hstA:∀ b,A b→stab cx fp (fun _=>False) w b:=fun b hb=>⟨⟨hA b hb,fun _=>hb⟩,fun h=>h,fun k hk=>by
  obtain ⟨j,hj⟩:=hfpF k b hk
  exact (hFs j b hj).2.1 hb⟩
 have hinj:=nodupN_inj hnd
 have h0:Bm cx fn.ntmps tr (initE tr as) { tmps:=tm,defers:=[] } w:=by
  refine ⟨⟨vl,fp,fun _=>False,?_,fun k t hk _=>by simp only [vl,hk],fun i t hi _=>by simp at hi,fun k h1 _=>hgv k h1⟩,rfl,fun j hj=>by simp at hj,htm,rfl⟩
  refine ⟨fun k=>?_,fun i j hij b hi hj=>?_,fun _ _ _ h=>h,fun k hk b hb=>?_,fun k b hb=>?_,fun _ h=>h.elim,Nat.le_refl _,fun _ _ _=>rfl,rfl,rfl,rfl⟩
  ·rcases initE_get (tr:=tr) (as:=as) k with hc | ⟨t,a,h1,h2,hc⟩ | ⟨t,x,y,rfl,h2,hc⟩
   ·rw [hc];exact Pl.dead
   ·rw [hc]
    have hlt:=(List.getElem?_eq_some_iff.1 h2).1
    have hp:=hpre t a h2
    rw [hslot k t h1 hlt]
    have hao:=argsOk_get ha h2
    cases a with
    | v x =>
     have hr:=hp.1.mono hstA (fun _ _=>rfl)
     show ContOk _ _ _ _ _ x
     have:x.okc=true:=hao
     cases x<;>first | exact Pl.rd hr | cases this
    | own x =>
     show Own w _ _ x _
     exact Own.mono (F:=Fs t) hp hstA (fun _ _=>rfl) (fun _ _=>rfl) fun b hb=>.inl ⟨t,x,h1,h2,hb⟩
    | io x y =>
     have hcg:=initE_io (tr:=tr) (by omega) h2
     have hvg:vl (tr.length+t)=vs.getD t undef:=by rw [hgv _ (by omega),show tr.length+t-tr.length=t by omega]
     have hp:ContOk w A (fun _ _=>False) (vs.getD t undef) (Fs t) x:=hp
     have hcont:ContOk w A (RefOk w (⟨initE tr as,0,[]⟩:St).cont vl) (vl (tr.length+t)) (Fs t) ((⟨initE tr as,0,[]⟩:St).cont (tr.length+t)):=by
      rw [hcg,hvg]
      exact hp.mono (Q:=fun _=>True) (fun _ h=>h) (fun _ _=>rfl) (fun _ _=>rfl) (fun _ h=>h) (refs_all (fun _=>trivial) _) fun v d _ h=>h.elim
     have hov:=opv_ok hcont
     rw [hcg,hvg] at hov
     have hkc:∀ g:Nat,(opv g x).okc=true:=by
      intro g
      cases x with
      | box l=>rfl
      | o z =>
       have hz:(expo 0 [] z).okc=true:=hao
       exact expo_okc hz g
      | _=>cases hao
     have hgate:(opv (tr.length+t) x).gate=true:=by
      have:=hkc (tr.length+t)
      generalize opv (tr.length+t) x=z at this
      cases z<;>first | rfl | cases this
     have hcore:(opv (tr.length+t) x).core=opv (tr.length+t) x:=by
      have:=hkc (tr.length+t)
      generalize opv (tr.length+t) x=z at this
      cases z<;>first | rfl | cases this
     have hpl:=hov.1 hgate
     rw [hcore] at hpl
     have hpl:=hpl.mono (Q:=fun _=>True) hstA (fun _ _=>rfl) (refs_all (fun _=>trivial) _) fun v d _ h=>h
     show ContOk _ _ _ _ _ (opv (tr.length+t) x)
     have:=hkc (tr.length+t)
     generalize opv (tr.length+t) x=z at this hpl
     cases z<;>first | exact hpl | cases this
   ·rw [hc,hgv _ (by omega),show tr.length+t-tr.length=t by omega]
    have hp:ContOk w A (fun _ _=>False) (vs.getD t undef) (Fs t) x:=hpre t _ h2
    exact hp.mono (Q:=fun _=>True) hstA (fun _ _=>rfl) (fun _ _=>rfl) (fun b hb=>.inr ⟨t,x,y,rfl,h2,hb⟩) (refs_all (fun _=>trivial) _) fun v d _ h=>h.elim
  ·have key:∃ t,Fs t b∧((tr[i]?=some t∧∃ x,as[t]?=some (.own x))∨(i=tr.length+t∧∃ x y,as[t]?=some (.io x y))):=by
    rcases hi with ⟨t,x,q1,q2,q3⟩ | ⟨t,x,y,q1,q2,q3⟩
    ·exact ⟨t,q3,.inl ⟨q1,x,q2⟩⟩
    ·exact ⟨t,q3,.inr ⟨q1,x,y,q2⟩⟩
   have key':∃ t,Fs t b∧((tr[j]?=some t∧∃ x,as[t]?=some (.own x))∨(j=tr.length+t∧∃ x y,as[t]?=some (.io x y))):=by
    rcases hj with ⟨t,x,q1,q2,q3⟩ | ⟨t,x,y,q1,q2,q3⟩
    ·exact ⟨t,q3,.inl ⟨q1,x,q2⟩⟩
    ·exact ⟨t,q3,.inr ⟨q1,x,y,q2⟩⟩
   obtain ⟨t,k1,k2⟩:=key
   obtain ⟨t',k3,k4⟩:=key'
   have htt:t=t':=Classical.byContradiction fun hne=>hFd t t' b hne k1 k3
   subst htt
   rcases k2 with ⟨q1,x,q2⟩ | ⟨q1,x,y,q2⟩<;>rcases k4 with ⟨q3,x',q4⟩ | ⟨q3,x',y',q4⟩
   ·exact hij (hinj _ _ _ q1 q3)
   ·rw [q2] at q4;cases q4
   ·rw [q2] at q4;cases q4
   ·omega
  ·rcases hb with ⟨t,x,q1,q2,q3⟩ | ⟨t,x,y,rfl,q2,q3⟩
   ·rw [initE_tr (by omega) q1 q2] at hk;cases hk
   ·rw [initE_io (by omega) q2] at hk
    have hao:=argsOk_get ha q2
    cases x with
    | box l=>cases hk
    | o z=>cases hk
    | _=>cases hao
  ·obtain ⟨j,hj⟩:=hfpF k b hb
   exact ⟨(hFs j b hj).1,.inl ⟨j,hj⟩⟩
 have fin:∀ a' w' env,out rs res tr.length as env→Bm cx fn.ntmps tr env a' w' →
   a'.defers=[]∧∃ v,(results fn a'.tmps).run P w'=.ok v w'∧∃ (u:Value) (F:Nat→Prop) (Fs':Nat→Nat→Prop),Ending.returned v=.returned u∧w.heap.size≤w'.heap.size ∧
    Own w' (fun b=>A b∨(w.heap.size≤b∧b<w'.heap.size∧¬ F b∧∀ j,¬ Fs' j b)) u res F ∧
    (∀ (i:Nat) (x:Arg),as[i]?=some x→x.post w' (fun b=>A b∨(w.heap.size≤b∧b<w'.heap.size∧¬ F b∧∀ j,¬ Fs' j b)) (vs.getD i undef) (Fs' i)) ∧
    (∀ b,F b→b<w'.heap.size∧(w.heap.size≤b∨∃ j,Fs j b)∧∀ j,¬ Fs' j b)∧(∀ j b,Fs' j b→b<w'.heap.size∧(w.heap.size≤b∨∃ j,Fs j b)∧j<as.length)∧(∀ i j b,i≠j→Fs' i b→¬ Fs' j b) ∧
    (∀ b,b<w.heap.size→(∀ j,¬ Fs j b)→w'.heap[b]?=w.heap[b]?)∧w'.os=w.os∧w'.tape=w.tape∧w'.output=w.output:=by
  intro a' w' env ho hB
  unfold out at ho
  cases hol:outL ⟨env,0,[]⟩ rs with
  | none=>rw [hol] at ho;exact ho.elim
  | some p =>
  rw [hol] at ho
  obtain ⟨hs,hab⟩:=ho
  obtain ⟨vl',fp',G',hp,htr2,_,hgh⟩:=hB.ex
  obtain ⟨us,hrun,hlen,hpl⟩:=outs_ok (P:=P) hp (fun j t hj=>htr2 j t hj (by simp)) fn.results.toList rs hres hol hs
  obtain ⟨l',st',fp2,G2,Ls,⟨hretd,hgp⟩,htk,hll,hown,hLd,_⟩:=absL_sound (A:=stab cx fp' G' w') _ hab hp hB.wf (fun _ h=>h) hpl
  have hrun':=results_list hrun
  let F:Nat→Prop:=fun b=>∃ j,Ls j b
  let Fs':Nat→Nat→Prop:=fun t b=>(∃ x y,as[t]?=some (.io x y))∧fp2 (tr.length+t) b
  have hst:∀ b,stab cx fp2 G2 w' b→A b∨(w.heap.size≤b∧b<w'.heap.size∧¬ F b∧∀ j,¬ Fs' j b):=by
   rintro b ⟨⟨q1,q2⟩,q3,q4⟩
   by_cases hbo:b<w.heap.size
   ·exact .inl (q2 hbo)
   ·exact .inr ⟨by omega,q1,fun hF=>q3 (htk.hF b hF).1,fun j hj=>q4 _ hj.2⟩
  have hownR:Own w' (stab cx fp2 G2 w') (retV us) res F:=by
   rw [← hretd]
   have hul:us.length=l'.length:=by rw [hlen,hll]
   match us,l',hul,hown,hLd with
   | [],[],_,_,_=>exact Own.tup (fun _ _=>False) rfl (fun j x hx=>by simp at hx) (fun _ _ h=>h.elim) (fun _ _ _ _ h=>h.elim)
   | [v],[x],_,hown,_ =>
    have:=(hown 0 x rfl).1
    exact this.mono (fun _ h=>h) (fun _ _=>rfl) (fun _ _=>rfl) fun b hb=>⟨0,hb⟩
   | a::b::r,x::y::l,hul,hown,hLd =>
    refine Own.tup (fun j b=>Ls j b) (by simpa using hul) (fun j z hz=>(hown j z hz).1) (fun j b hb=>⟨j,hb⟩) (fun i j b hij hi hj=>hLd i j b hij hi hj)
  refine ⟨hB.defers,_,hrun',_,F,Fs',rfl,htk.hp.size,hownR.mono hst (fun _ _=>rfl) (fun _ _=>rfl) fun _ h=>h,fun i x hx=>?_,fun b hb=>?_,fun j b hb=>?_,fun i j b hij hi hj=>?_,fun b hb hn=>htk.hp.same b hb fun ⟨j,hj⟩=>hn j hj,htk.hp.os,htk.hp.tape,htk.hp.output⟩
  ·cases x with
   | io x y =>
    obtain ⟨g1,g2⟩:=gpost_get hgp hx
    have hlt:=(List.getElem?_eq_some_iff.1 hx).1
    have hc:=htk.hp.ok (tr.length+i)
    rw [g1,hgh _ (by omega) (by omega)] at hc
    have hv:cx.gv (tr.length+i)=vs.getD i undef:=by show vs.getD (tr.length+i-tr.length) undef=_;rw [show tr.length+i-tr.length=i by omega]
    rw [hv] at hc
    exact (hc.bare g2).mono (Q:=fun _=>True) hst (fun _ _=>rfl) (fun _ _=>rfl) (fun b hb=>⟨⟨x,y,hx⟩,hb⟩) (refs_all (fun _=>trivial) _) fun _ _ _ h=>h
   | v x=>exact fun b hb=>by obtain ⟨⟨x',y',h⟩,_⟩:=hb;rw [hx] at h;cases h
   | own x=>exact fun b hb=>by obtain ⟨⟨x',y',h⟩,_⟩:=hb;rw [hx] at h;cases h
  ·have q:=htk.hF b hb
   obtain ⟨q1,q2⟩:=htk.hp.ltG b q.1
   exact ⟨q1,q2.symm,fun j hj=>htk.hp.disG _ b hj.2 q.1⟩
  ·obtain ⟨⟨x,y,hxy⟩,hb⟩:=hb
   obtain ⟨q1,q2⟩:=htk.hp.lt _ b hb
   exact ⟨q1,q2.symm,(List.getElem?_eq_some_iff.1 hxy).1⟩
  ·exact htk.hp.dis _ _ (by omega) b hi.2 hj.2
 refine calls_of_wp hf hb ?_
 exact vc_sound htr c code hfit hv h0 (fun a w env h1 h2=>fin a w env h1 h2) (fun _ _ _ _ h _=>h.elim) (fun a w env h1 h2=>fin a w env h1 h2)
end Go.D3
