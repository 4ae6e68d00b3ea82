/- REGIONS: what is forgotten at the beginning,what is kept at the end. Generic. -/
import Derived.Test.YtgieggnpnepkfaaGreatDoorOp
namespace Go.D3
open Go
section
variable {P:Program} {cx:Ctx} {vl:Nat→Value} {fp:Nat→Nat→Prop} {G:Nat→Prop} {w:World}
theorem begS_hp:∀ (pre:List Nat) {st:St} {fp:Nat→Nat→Prop} {G:Nat→Prop},Hp cx st.cont vl fp G w→st.wf →
  ∃ fp' G',Hp cx (begS pre st).cont vl fp' G' w∧(begS pre st).wf∧(begS pre st).n=st.n∧(∀ i,st.cont i=.dead→(begS pre st).cont i=.dead)∧∀ j,j∈pre→(begS pre st).cont j=.dead
 | [],st,fp,G,h,hw=>⟨fp,G,h,hw,rfl,fun _ h=>h,fun j hj=>by cases hj⟩
 | j::r,st,fp,G,h,hw=>by
  obtain ⟨fp1,G1,h1,h2,h3,h4⟩:=put_slot (j:=j) (v:=vl j) (c:=.dead) (F:=fun _=>False) h hw (fun _ h=>h.elim) (show Pl _ _ _ _ _ from Pl.dead) trivial (fun _ _ h=>h)
  rw [upd_self] at h1
  have hd:((st.kill (qInto j)).put j .dead).cont j=.dead:=by
   by_cases hin:(st.kill (qInto j)).in j
   ·rw [St.cont_put_in (St.wf_kill hw _) hin,upd_same]
   ·rw [St.cont_put_out hin,St.cont_out hin]
  obtain ⟨fp2,G2,k1,k2,k3,k4,k5⟩:=begS_hp r h1 h2
  refine ⟨fp2,G2,k1,k2,k3.trans h3,fun i hi=>k4 i ?_,fun i hi=>?_⟩
  ·by_cases hij:i=j
   ·subst hij;exact hd
   ·exact h4 i hij hi
  ·rcases List.mem_cons.1 hi with rfl | hi
   ·exact k4 _ hd
   ·exact k5 i hi
theorem Hp.clear {ct:Nat→D} (h:Hp cx ct vl fp G w) (S:Nat→Prop) [DecidablePred S] (hno:∀ j,¬ S j→(ct j).refs fun d=>∀ k,S k→notInto k d) :
  ∃ fp' G',Hp cx (fun k=>if S k then .dead else ct k) vl fp' G' w:=by
 refine ⟨fun k b=>¬ S k∧fp k b,fun b=>G b∨∃ k,S k∧fp k b,?_⟩
 have hst:∀ b,stab cx fp G w b→stab cx (fun k b=>¬ S k∧fp k b) (fun b=>G b∨∃ k,S k∧fp k b) w b:=by
  rintro b ⟨h1,h2,h3⟩
  exact ⟨h1,fun hg=>hg.elim h2 fun ⟨k,_,hk⟩=>h3 k hk,fun j hj=>h3 j hj.2⟩
 have hkeep:∀ d,(∀ k,S k→notInto k d)→keepR w w ct (fun k=>if S k then .dead else ct k) vl vl d:=by
  intro d hd
  cases d<;>try trivial
  all_goals
   rename_i j p
   intro hp
   have hj:¬ S j:=fun hs=>hd j hs rfl
   simp only [if_neg hj]
   exact ⟨hp,trivial⟩
 refine ⟨fun j=>?_,fun i j hij b hi hj=>h.dis i j hij b hi.2 hj.2,fun j b hj hg=>?_,fun j hj b hb=>?_,fun j b hj=>h.lt j b hj.2,fun b hb=>hb.elim (h.ltG b) fun ⟨k,_,hk⟩=>h.lt k b hk,h.size,h.same,h.os,h.tape,h.output⟩
 ·by_cases hs:S j
  ·simp only [if_pos hs];exact Pl.dead
  ·simp only [if_neg hs]
   exact (h.ok j).mono hst (fun _ _=>rfl) (fun _ _=>rfl) (fun b hb=>⟨hs,hb⟩) (hno j hs) fun v d hq hr=>hr.keep (refs_mono hkeep hq)
 ·exact hg.elim (h.disG j b hj.2) fun ⟨k,hk,hkb⟩=>h.dis j k (by rintro rfl;exact hj.1 hk) b hj.2 hkb
 ·by_cases hs:S j
  ·exact hb.1 hs
  ·rw [if_neg hs] at hj;exact h.emp j hj b hb.2
theorem kill_refs_keep {Q:D→Prop} (q:D→Bool) {c:D} (h:c.refs Q):(c.kill q).refs Q:=by
 induction c using D.ind with
 | agg l ih | tup l ih | box l ih | fn _ l ih =>
  simp only [D.kill,D.refs,killL_map,refsL_iff,List.mem_map] at h ⊢
  rintro _ ⟨y,hy,rfl⟩;exact ih y hy (h y hy)
 | row z l _ ih =>
  simp only [D.kill,D.refs,killL_map,refsL_iff,List.mem_map] at h ⊢
  rintro _ ⟨y,hy,rfl⟩;exact ih y hy (h y hy)
 | when g x ih=>exact ih h
 | sub a b=>simp only [D.kill];split<;>first | trivial | exact h
 | adr a b=>simp only [D.kill];split<;>first | trivial | exact h
 | pre a b n=>simp only [D.kill];split<;>first | trivial | exact h
 | _=>trivial
theorem move_hp {st:St} (h:Hp cx st.cont vl fp G w) (hw:st.wf) {j k:Nat} (hjk:j≠k) :
  let st1:=(st.kill (qInto j)).kill (qInto k)
  let st2:=(st1.put j (st1.cont k)).put k .dead
  ∃ fp' G',Hp cx st2.cont (upd vl j (vl k)) fp' G' w∧st2.wf∧st2.n=st.n∧∀ i,i≠j→st.cont i=.dead→st2.cont i=.dead:=by
 intro st1 st2
 have h1:Hp cx st1.cont vl fp G w:=by
  have:=(h.kill (qInto j))
  rw [← St.cont_kill] at this
  have:=this.kill (qInto k)
  rw [← St.cont_kill] at this
  exact this
 have hw1:st1.wf:=St.wf_kill (St.wf_kill hw _) _
 have hrk:∀ i,(st1.cont i).refs (notInto k):=fun i=>by
  show (((st.kill (qInto j)).kill (qInto k)).cont i).refs _
  rw [St.cont_kill];exact refs_mono (fun d hd=>by cases d<;>simp_all [qInto,notInto]) (kill_refs (qInto k) _)
 have hrj:∀ i,(st1.cont i).refs (notInto j):=fun i=>by
  show (((st.kill (qInto j)).kill (qInto k)).cont i).refs _
  rw [St.cont_kill]
  exact kill_refs_keep _ (by rw [St.cont_kill];exact refs_mono (fun d hd=>by cases d<;>simp_all [qInto,notInto]) (kill_refs (qInto j) _))
 have h2:=(h1.drop j hrj (vl j))
 rw [upd_self] at h2
 have h3:=h2.drop k (fun i=>by
  by_cases hij:i=j
  ·subst hij;rw [upd_same];trivial
  ·rw [upd_ne _ _ hij];exact hrk i) (vl k)
 rw [upd_self] at h3
 have hst:∀ b,stab cx fp G w b→stab cx (upd (upd fp j fun _=>False) k fun _=>False) (fun b=>(G b∨fp j b)∨upd fp j (fun _=>False) k b) w b:=by
  rintro b ⟨q1,q2,q3⟩
  refine ⟨q1,fun hg=>?_,fun i hi=>?_⟩
  ·rcases hg with (hg | hg) | hg
   ·exact q2 hg
   ·exact q3 j hg
   ·rw [upd_ne _ _ (Ne.symm hjk)] at hg;exact q3 k hg
  ·by_cases hik:i=k
   ·subst hik;rw [upd_same] at hi;exact hi
   ·rw [upd_ne _ _ hik] at hi
    by_cases hij:i=j
    ·subst hij;rw [upd_same] at hi;exact hi
    ·rw [upd_ne _ _ hij] at hi;exact q3 i hi
 have key:∀ c,(c=st1.cont k∨c=.dead)→∃ fp' G',Hp cx (upd (upd (upd st1.cont j .dead) k .dead) j c) (upd vl j (vl k)) fp' G' w:=by
  intro c hc
  have hcok:∃ F,(∀ b,F b→fp k b)∧ContOk w (stab cx fp G w) (RefOk w st1.cont vl) (vl k) F c∧(c.isObj=false→∀ b,¬ F b)∧c.refs (fun d=>notInto j d∧notInto k d):=by
   rcases hc with rfl | rfl
   ·exact ⟨fp k,fun _ h=>h,h1.ok k,h1.emp k,refs_and (hrj k) (hrk k)⟩
   ·exact ⟨fun _=>False,fun _ h=>h.elim,show Pl _ _ _ _ _ from Pl.dead,fun _ _ h=>h,trivial⟩
  obtain ⟨F,f1,f2,f3,f4⟩:=hcok
  refine ⟨_,fun _=>False,h3.put (k:=j) (v:=vl k) (c:=c) (F:=F) (by rw [upd_ne _ _ hjk,upd_same];rfl)
   (f2.mono hst (fun _ _=>rfl) (fun _ _=>rfl) (fun _ h=>h) f4 fun v d hq hr=>hr.keep (refs_mono (fun q hq=>by
     cases q<;>try trivial
     all_goals
      rename_i i p
      intro hp
      have n1:i≠j:=hq.1
      have n2:i≠k:=hq.2
      simp only [upd_ne _ _ n1,upd_ne _ _ n2]
      exact ⟨hp,trivial⟩) hq))
   (fun b hb=>.inr (by rw [upd_ne _ _ (Ne.symm hjk)];exact f1 b hb)) (fun _ h=>h.elim) (fun _ _ h=>h) f3⟩
 have hcont:∃ c,(c=st1.cont k∨c=.dead)∧st2.cont=upd (upd (upd st1.cont j .dead) k .dead) j c:=by
  have hwp:(st1.put j (st1.cont k)).wf:=St.wf_put hw1 _ _
  have hk2:∀ {s:St},s.wf→(s.put k .dead).cont=upd s.cont k .dead:=by
   intro s hs
   by_cases hin:s.in k
   ·exact St.cont_put_in hs hin _
   ·rw [St.cont_put_out hin];funext i;simp only [upd];split
    ·subst_vars;exact St.cont_out hin
    ·rfl
  by_cases hin:st1.in j
  ·refine ⟨_,.inl rfl,?_⟩
   show ((st1.put j (st1.cont k)).put k .dead).cont=_
   rw [hk2 hwp,St.cont_put_in hw1 hin]
   funext i
   simp only [upd]
   by_cases hik:i=k
   ·subst hik;rw [if_pos rfl,if_neg (Ne.symm hjk),if_pos rfl]
   ·by_cases hij:i=j
    ·subst hij;simp [hik]
    ·simp [hik,hij]
  ·refine ⟨_,.inr rfl,?_⟩
   show ((st1.put j (st1.cont k)).put k .dead).cont=_
   rw [hk2 hwp,St.cont_put_out hin]
   funext i
   simp only [upd]
   by_cases hik:i=k
   ·subst hik;rw [if_pos rfl,if_neg (Ne.symm hjk),if_pos rfl]
   ·by_cases hij:i=j
    ·subst hij;simp [hik,St.cont_out hin]
    ·simp [hik,hij]
 obtain ⟨c,hc,hcc⟩:=hcont
 obtain ⟨fp',G',hh⟩:=key c hc
 rw [← hcc] at hh
 refine ⟨fp',G',hh,St.wf_put (St.wf_put hw1 _ _) _ _,?_,fun i hi hd=>?_⟩
 case refine_2 =>
  rw [hcc,upd_ne _ _ hi]
  by_cases hik:i=k
  ·subst hik;exact upd_same _ _ _
  ·rw [upd_ne _ _ hik,upd_ne _ _ hi];exact St.kill_dd _ (St.kill_dd _ hd)
 show ((st1.put j (st1.cont k)).put k .dead).n=st.n
 rw [St.n_put,St.n_put];rfl
theorem own_end {st st1:St} {i:Nat} {x:D} {fp1:Nat→Nat→Prop} {G1 F:Nat→Prop} (h2:Tk cx w vl st fp G st1 fp1 G1 F) (h3:Own w (stab cx fp1 G1 w) (vl (1000+i)) x F) :
  ∃ fp' G',Hp cx ((st1.kill (qInto (1000+i))).put (1000+i) (contOf x)).cont vl fp' G' w∧((st1.kill (qInto (1000+i))).put (1000+i) (contOf x)).wf∧((st1.kill (qInto (1000+i))).put (1000+i) (contOf x)).n=st.n ∧
   ∀ k,k<1000→st.cont k=.dead→((st1.kill (qInto (1000+i))).put (1000+i) (contOf x)).cont k=.dead:=by
 obtain ⟨c1,c2⟩:=contOf_ok (R:=RefOk w (st1.kill (qInto (1000+i))).cont vl) h3
 have hcr:(contOf x).refs (notInto (1000+i)):=contOf_refs h3 _
 have key:∃ F',(∀ b,F' b→G1 b)∧ContOk w (stab cx fp1 G1 w) (RefOk w (st1.kill (qInto (1000+i))).cont vl) (vl (1000+i)) F' (contOf x)∧((contOf x).isObj=false→∀ b,¬ F' b):=by
  by_cases ho:(contOf x).isObj=true
  ·exact ⟨F,fun b hb=>(h2.hF b hb).1,c1,fun hh=>by rw [ho] at hh;cases hh⟩
  ·exact ⟨fun _=>False,fun _ h=>h.elim,c2 (by simpa using ho),fun _ _ h=>h⟩
 obtain ⟨F',k1,k2,k3⟩:=key
 obtain ⟨fp2,G2,k4,k5,k6,k6'⟩:=put_slot h2.hp h2.wf k1 k2 hcr k3
 rw [upd_self] at k4
 exact ⟨fp2,G2,k4,k5,k6.trans h2.n,fun j hj hd=>k6' j (by omega) (h2.dd j hd)⟩
theorem ownC_hp {st:St} {i:Nat} (h:Hp cx st.cont vl fp G w) (hw:st.wf):∃ fp' G',Hp cx (ownC i (st.cont (1000+i)) st).cont vl fp' G' w∧(ownC i (st.cont (1000+i)) st).wf∧(ownC i (st.cont (1000+i)) st).n=st.n ∧
  ∀ k,k<1000→st.cont k=.dead→(ownC i (st.cont (1000+i)) st).cont k=.dead:=by
 have same:∃ fp' G',Hp cx st.cont vl fp' G' w∧st.wf∧st.n=st.n∧∀ k,k<1000→st.cont k=.dead→st.cont k=.dead:=⟨fp,G,h,hw,rfl,fun _ _ h=>h⟩
 cases hc:st.cont (1000+i)<;>try exact same
 rename_i k p
 have hv:Pl w (stab cx fp G w) (RefOk w st.cont vl) (vl (1000+i)) (.sub k p):=by
  have:=h.ok (1000+i)
  rw [hc] at this
  exact this
 cases p with
 | nil =>
  unfold ownC
  dsimp only
  by_cases hk : 1000≤k
  ·rw [if_pos hk]
   cases hx:(st.cont k).tk? with
   | none=>exact same
   | some x =>
    obtain ⟨y,st1,fp1,G1,F,⟨rfl,rfl⟩,h2,h3,h4,-,-⟩:=abs_sound (.sub k []) (K:=fun d st'=>d=x∧st'=(st.kill (qInto k)).put k .dead) (by show optVC (st.cont k).tk? _;rw [hx];exact ⟨rfl,rfl⟩) h hw (fun _ h=>h) hv
    exact own_end h2 h3
  ·rw [if_neg hk];exact same
 | cons s p =>
  unfold ownC
  dsimp only
  by_cases hk : 1000≤k
  ·rw [if_pos hk]
   obtain ⟨y,st1,fp1,G1,F,⟨rfl,rfl⟩,h2,h3,h4,-,-⟩:=abs_sound (.sub k (s::p)) (K:=fun d st'=>d=(st.cont k).dat (s::p)∧st'=(st.kill (qDeep k (s::p))).put k (((st.kill (qDeep k (s::p))).cont k).hole (s::p))) ⟨rfl,rfl⟩ h hw (fun _ h=>h) hv
   exact own_end h2 h3
  ·rw [if_neg hk];exact same
theorem ownL_hp:∀ (post:List (Nat×Nat)) {st:St} {fp:Nat→Nat→Prop} {G:Nat→Prop},Hp cx st.cont vl fp G w→st.wf→∃ fp' G',Hp cx (ownL post st).cont vl fp' G' w∧(ownL post st).wf∧(ownL post st).n=st.n∧∀ k,k<1000→st.cont k=.dead→(ownL post st).cont k=.dead
 | [],st,fp,G,h,hw=>⟨fp,G,h,hw,rfl,fun _ _ h=>h⟩
 | (j,i)::r,st,fp,G,h,hw=>by
  obtain ⟨fp1,G1,h1,h2,h3,h4⟩:=ownC_hp (i:=i) h hw
  obtain ⟨fp2,G2,k1,k2,k3,k4⟩:=ownL_hp r h1 h2
  exact ⟨fp2,G2,k1,k2,k3.trans h3,fun k hk hd=>k4 k hk (h4 k hk hd)⟩
theorem endS_hp:∀ (post:List (Nat×Nat)) {st:St} {vl:Nat→Value} {fp:Nat→Nat→Prop} {G:Nat→Prop},Hp cx st.cont vl fp G w→st.wf→(∀ p∈post,p.1<1000)→(post.map (·.1)).Nodup →
  ∃ vl' fp' G',Hp cx (endS post st).cont vl' fp' G' w∧(∀ k,k ∉ post.map (·.1)→vl' k=vl k)∧(∀ p∈post,vl' p.1=vl (1000+p.2))∧∀ k,k ∉ post.map (·.1)→st.cont k=.dead→(endS post st).cont k=.dead
 | [],st,vl,fp,G,h,hw,_,_=>⟨vl,fp,G,h,fun _ _=>rfl,(fun p hp=>absurd hp (by simp)),fun _ _ h=>h⟩
 | (j,i)::r,st,vl,fp,G,h,hw,hlt,hnd=>by
  have hj:j<1000:=hlt (j,i) (by simp)
  obtain ⟨fp1,G1,h1,h2,h3,h4⟩:=move_hp h hw (j:=j) (k:=1000+i) (by omega)
  simp only [List.map_cons,List.nodup_cons] at hnd
  obtain ⟨vl',fp',G',k1,k2,k3,k4⟩:=endS_hp r h1 h2 (fun p hp=>hlt p (by simp [hp])) hnd.2
  refine ⟨vl',fp',G',k1,fun k hk=>?_,fun p hp=>?_,fun k hk hd=>?_⟩
  ·simp only [List.map_cons,List.mem_cons,not_or] at hk
   rw [k2 k hk.2,upd_ne _ _ hk.1]
  ·rcases List.mem_cons.1 hp with rfl | hp
   ·rw [k2 _ hnd.1,upd_same]
   ·rw [k3 p hp,upd_ne _ _ (by omega)]
  ·simp only [List.map_cons,List.mem_cons,not_or] at hk
   exact k4 k hk.2 (h4 k hk.1 hd)
theorem Hp.reval {ct:Nat→D} {vl':Nat→Value} (h:Hp cx ct vl fp G w) (he:∀ k,ct k≠.dead→vl' k=vl k):Hp cx ct vl' fp G w:=by
 refine ⟨fun j=>?_,h.dis,h.disG,h.emp,h.lt,h.ltG,h.size,h.same,h.os,h.tape,h.output⟩
 by_cases hd:ct j=.dead
 ·rw [hd];exact Pl.dead
 ·rw [he j hd]
  refine (h.ok j).mono (Q:=fun _=>True) (fun _ h=>h) (fun _ _=>rfl) (fun _ _=>rfl) (fun _ h=>h) (refs_all (fun _=>trivial) _) fun v d _ hr=>hr.keep (refs_all (fun q=>?_) _)
  cases q<;>try trivial
  case sub k p=>exact fun hp=>⟨hp,by rw [he k (by rintro hh;rw [hh] at hp;exact hp.1.elim)]⟩
  case adr k p=>exact fun hp=>⟨hp,by rw [he k (by rintro hh;rw [hh] at hp;exact hp.elim)]⟩
theorem fin_hp {st:St} (h:Hp cx st.cont vl fp G w):∃ fp' G',Hp cx (⟨(st.kill qTmp).env,0,[]⟩:St).cont vl fp' G' w:=by
 have h1:=h.kill qTmp
 rw [← St.cont_kill] at h1
 obtain ⟨fp',G',h2⟩:=h1.clear (fun k=>1000≤k) (fun j _=>by
  rw [St.cont_kill]
  exact refs_mono (fun d hd=>by
   intro k hk
   cases d<;>try trivial
   all_goals
    simp only [qTmp,decide_eq_false_iff_not] at hd
    simp only [notInto];omega) (kill_refs qTmp _))
 refine ⟨fp',G',?_⟩
 have e:(fun k=>if 1000≤k then D.dead else (st.kill qTmp).cont k)=(⟨(st.kill qTmp).env,0,[]⟩:St).cont:=by
  funext k
  by_cases hk:k<1000
  ·rw [if_neg (by omega)]
   show (if k<1000 then nth (st.kill qTmp).env k else _)=(if k<1000 then nth (st.kill qTmp).env k else _)
   rw [if_pos hk,if_pos hk]
  ·rw [if_pos (by omega)]
   show _=(if k<1000 then nth (st.kill qTmp).env k else if k<1000+0 then nth [] _ else D.dead)
   rw [if_neg hk,if_neg (by omega)]
 rw [← e]
 exact h2
theorem region_end {nt:Nat} {tr pre:List Nat} {ds ds':List (Option Nat)} {post:List (Nat×Nat)} {st:St} {a:Act} (hS:Slots nt tr pre ds) (h:Fm cx nt tr pre ds st a w) (hn:ds.length=st.n)
  (hpost:∀ p∈post,∃ t,tr[p.1]?=some t∧ds[p.2]?=some (some t)) (hnd:(post.map (·.1)).Nodup):Fm cx nt tr [] ds' ⟨fin post st,0,[]⟩ a w:=by
 obtain ⟨vl,fp,G,hp,htr,htm,hgh⟩:=h.ex
 have hlt5:∀ p∈post,p.1<tr.length:=fun p hp=>by
  obtain ⟨t,ht,_⟩:=hpost p hp
  exact (List.getElem?_eq_some_iff.1 ht).1
 have hlt:∀ p∈post,p.1<1000:=fun p hp=>by
  obtain ⟨t,ht,_⟩:=hpost p hp
  have:=(List.getElem?_eq_some_iff.1 ht).1;have:=hS.few;omega
 obtain ⟨fp0,G0,o1,o2,o3,o4⟩:=ownL_hp post hp h.wf
 obtain ⟨vl',fp',G',h1,h2,h3,h4⟩:=endS_hp post o1 o2 hlt hnd
 obtain ⟨fp2,G2,h5⟩:=fin_hp h1
 let vl2:Nat→Value:=fun k=>match tr[k]? with | some t=>a.tmps.getD t undef | none=>vl' k
 have h6:Hp cx (⟨fin post st,0,[]⟩:St).cont vl2 fp2 G2 w:=by
  refine h5.reval fun k hk=>?_
  show (match tr[k]? with | some t=>a.tmps.getD t undef | none=>vl' k)=vl' k
  cases ht:tr[k]? with
  | none=>rfl
  | some t =>
   show a.tmps.getD t undef=vl' k
   have hk1:k<1000:=by have:=(List.getElem?_eq_some_iff.1 ht).1;have:=hS.few;omega
   by_cases hkp:k∈post.map (·.1)
   ·obtain ⟨p,hp1,rfl⟩:=List.mem_map.1 hkp
    obtain ⟨t',e1,e2⟩:=hpost p hp1
    rw [e1] at ht
    injection ht with ht
    subst ht
    rw [h3 p hp1]
    exact htm p.2 t' (by have:=(List.getElem?_eq_some_iff.1 e2).1;omega) e2
   ·rw [h2 k hkp]
    by_cases hpre:pre.contains k=true
    ·exfalso
     apply hk
     have hdead:=h4 k hkp (o4 k hk1 (h.dd k hpre))
     have hdk:=St.kill_dd qTmp hdead
     show (if k<1000 then nth ((endS post (ownL post st)).kill qTmp).env k else _)=D.dead
     rw [if_pos hk1]
     have:(if k<1000 then nth ((endS post (ownL post st)).kill qTmp).env k else if k<1000+((endS post (ownL post st)).kill qTmp).n then nth ((endS post (ownL post st)).kill qTmp).tmp (999+((endS post (ownL post st)).kill qTmp).n-k) else D.dead)=D.dead:=hdk
     rw [if_pos hk1] at this
     exact this
    ·exact htr k t ht (by simpa using hpre)
 refine ⟨⟨vl2,fp2,G2,h6,fun j t hj _=>?_,fun i t hi _=>by simp at hi,fun k k1 k2=>?_⟩,rfl,fun j hj=>by simp at hj,h.size,h.defers⟩
 ·show a.tmps.getD t undef=(match tr[j]? with | some t=>a.tmps.getD t undef | none=>vl' j)
  rw [hj]
 ·show (match tr[k]? with | some t=>a.tmps.getD t undef | none=>vl' k)=_
  have hnone:tr[k]?=none:=List.getElem?_eq_none (by have:=hS.few;omega)
  rw [hnone]
  show vl' k=_
  rw [h2 k (fun hk=>by obtain ⟨p,hp1,rfl⟩:=List.mem_map.1 hk;have:=hlt5 p hp1;omega)]
  exact hgh k k1 k2
end
end Go.D3
