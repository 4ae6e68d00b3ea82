/- ASSIGNMENTS AND STORES. Generic. -/
import Derived.Test.YtgieggnpnepkfaaGreatDoorAbs
import Derived.Laws.IdiomCopy
namespace Go.D3
open Go
section
variable {cx:Ctx} {vl:Nat→Value} {fp:Nat→Nat→Prop} {G:Nat→Prop} {w:World} {A:Nat→Prop}
theorem okAt_cell {y:D} (hy:y.isAgg=false):∀ (p:Path) (x:D),okAt x p y
 | [],_=>trivial
 | [(i,off)],x=>by
  simp only [okAt]
  generalize x.un=z
  cases z<;>first | trivial | exact .inr hy
 | (i,off)::s::p,x=>okAt_cell hy (s::p) (x.kid i off)
theorem okAtC_cell {c y:D} {p:Path} (hp:c.hasC p) (hne:p≠[]) (hy:y.isAgg=false):okAtC c p y:=by
 cases c<;>try exact hp.elim
 case o x=>exact okAt_cell hy p x
 case row=>exact absurd hp hne
 case box l =>
  cases p with
  | nil=>exact absurd rfl hne
  | cons s p =>
   cases p with
   | nil=>exact trivial
   | cons t p=>exact okAt_cell hy (t::p) _
theorem apart_bump:∀ {p:Path} {i j:Nat},p≠[]→i≠j→apart (bump p i) (bump p j)=true
 | [],_,_,h,_=>absurd rfl h
 | [(a,b)],i,j,_,h=>by simp [bump,apart,h]
 | s::t::p,i,j,_,h=>by
  simp only [bump,apart,if_true]
  exact apart_bump (p:=t::p) (by simp) h
theorem bump_len:∀ (p:Path) (j:Nat),(bump p j).length=p.length
 | [],_=>rfl
 | [_],_=>rfl
 | _::t::p,j=>by simp only [bump,List.length_cons,bump_len (t::p) j]
theorem adr_stable_tree {w':World}:∀ (p:Path) {v:Value} {x:D} {F:Nat→Prop} {a:Addr},Own w A v x F→x.has p→adrAt w v x p=some a→(∀ c,c≠a.block→w'.heap[c]?=w.heap[c]?)→adrAt w' v x p=some a
 | [],v,x,F,a,_,_,h,_=>by simp [adrAt] at h
 | [(i,off)],v,x,F,a,_,_,h,_=>h
 | (i,off)::s::p,v,x,F,a,h,hp,ha,hw=>by
  obtain ⟨e1,e2,e3,e4⟩:=kid_tree h i off
  obtain ⟨u,F1,F2,g1,g2,g3,g4,g5,g6,g7⟩:=h.split (e2.1 hp.1)
  rw [← e1] at g2
  have ha':adrAt w u (x.kid i off) (s::p)=some a:=by
   simp only [adrAt,e4,g1,Option.bind_some] at ha
   exact ha
  obtain ⟨_,G1,G2,_,_,k3,k4,_,_,k7⟩:=Own.splitAt (s::p) g2 hp.2
  have hab:=k4 _ (k7 a ha').1
  have hkv:kidV w' v x i off=some u:=by
   obtain ⟨hu,_⟩:=h.un
   unfold kidV;rw [hu]
   cases x<;>try exact (e2.1 hp.1).elim
   all_goals first
    | exact g1
    | (simp only [kidVT] at g1 ⊢
       generalize hka:kidAT v _ i off=ka at g1 ⊢
       cases ka with
       | none=>simp at g1
       | some ka =>
        obtain ⟨j1,j2,j3,_⟩:=g7 ka hka
        simp only [Option.bind_some] at g1 ⊢
        rw [← g1]
        obtain ⟨ab,ao,as⟩:=ka
        simp only at j2
        cases as with
        | some _=>simp at j2
        | none=>exact cell_of_heap (hw _ (by rintro rfl;exact g5 _ hab j1)))
  simp only [adrAt,hkv,Option.bind_some]
  exact adr_stable_tree (s::p) g2 hp.2 ha' hw
theorem adr_stable {R:Value→D→Prop} {v:Value} {c:D} {F:Nat→Prop} {p:Path} {a:Addr} {w':World} (h:ContOk w A R v F c) (hp:c.hasC p) (ha:adrAt w v c p=some a) (hw:∀ d,d≠a.block→w'.heap[d]?=w.heap[d]?):adrAt w' v c p=some a:=by
 cases c<;>try exact hp.elim
 case o x =>
  rw [(valAt_o h w p).2] at ha
  rw [(valAt_o h w' p).2]
  exact adr_stable_tree p h hp ha hw
 case row z l=>simp only [D.hasC] at hp;subst hp;simp [adrAt] at ha
 case box l =>
  cases p with
  | nil=>simp [adrAt] at ha
  | cons s p =>
   obtain ⟨i,off⟩:=s
   obtain ⟨_,b,cs,e,Fs,h1,h2,h3,h4,h5,h6,h7⟩:=h
   obtain ⟨rfl,ho,hp⟩:=hp
   subst h1
   cases p with
   | nil=>exact ha
   | cons t p =>
    simp only at hp
    split at hp
    ·rename_i y hy
     have hget:l[off]?=some (.o y):=by
      rw [List.getElem?_eq_getElem ho]
      rw [List.getD_eq_getElem?_getD,List.getElem?_eq_getElem ho] at hy
      simpa using hy
     have hown:=h4 off _ hget
     simp only [CellOk] at hown
     have hcell:∀ w'',w''.heap[b]?=w.heap[b]?→kidV w'' (.pointer (some ⟨b,0,none⟩)) (.box l) 0 off=some (cs.getD off undef):=by
      intro w'' hb
      show w''.cell? ⟨b,0+off,none⟩=_
      rw [Nat.zero_add]
      exact cell_own (hb.trans h2) (by omega)
     have hk:D.kid (.box l) 0 off=.o y:=hy
     have ha':adrAt w (cs.getD off undef) y (t::p)=some a:=by
      rw [adrAt,hcell w rfl,Option.bind_some,hk,(valAt_o hown w (t::p)).2] at ha
      ·exact ha
      ·simp
     obtain ⟨_,G1,G2,_,_,k3,k4,_,_,k7⟩:=Own.splitAt (t::p) hown hp
     have hab:=k4 _ (k7 a ha').1
     rw [adrAt,hcell w' (hw b (by rintro rfl;exact (h6 _ _ hab).1 rfl)),Option.bind_some,hk,(valAt_o hown w' (t::p)).2]
     ·exact adr_stable_tree (t::p) hown hp ha' hw
     ·simp
    ·exact hp.elim
theorem contOf_cell {R:Value→D→Prop} {v:Value} {x:D} {F:Nat→Prop} (h:Own w A v x F) (h1:v.oneCell'=true):CellOk w A R v F (contOf x)∧∀ Q,(contOf x).refs Q:=by
 cases h with
 | int h=>exact ⟨.rd (.int h),fun _=>trivial⟩
 | bool=>exact ⟨.rd .bool,fun _=>trivial⟩
 | str h=>exact ⟨.rd (.str h),fun _=>trivial⟩
 | nil=>exact ⟨.nil,fun _=>trivial⟩
 | nilp=>exact ⟨.rd .nilp,fun _=>trivial⟩
 | fn=>exact ⟨.rd (.fn rfl (fun j x hx=>by simp at hx)),fun _=>trivial⟩
 | @vw v d F h =>
  cases d
  case slice z l=>exact ⟨Pl.rd h,fun _=>trivial⟩
  case ptr l=>exact ⟨Pl.rd h,fun _=>trivial⟩
  case agg l=>cases h;cases h1
  case tup l=>cases h;cases h1
  case fn f l=>exact ⟨Pl.rd h,fun Q=>h.norefs Q⟩
  case mp ks vs=>exact ⟨Pl.rd h,fun _=>trivial⟩
  all_goals exact ⟨Pl.dead,fun _=>trivial⟩
 | dead=>exact ⟨Pl.dead,fun _=>trivial⟩
 | mp hF hb hE=>exact ⟨.mp hF hb hE,fun _=>trivial⟩
 | nmp=>exact ⟨.rd .nmp,fun _=>trivial⟩
 | ifc h=>exact ⟨Pl.rd (.ifc h),fun _=>trivial⟩
 | nifc=>exact ⟨.rd .nifc,fun _=>trivial⟩
 | itr hF hb hs=>exact ⟨.itr hF hb hs,fun _=>trivial⟩
 | slice Fs hb hroom hc hm hz hzz hsz hr hF hfs hdis=>exact ⟨.slice Fs hb hroom hc hm hz hzz hsz hr hF hfs hdis,fun _=>trivial⟩
 | agg=>cases h1
 | tup=>cases h1
 | ptr Fs hb hs hr hF hfs hdis=>exact ⟨.ptr Fs hb hs hr hF hfs hdis,fun _=>trivial⟩
theorem stores_hp {k:Nat} {p:Path} (hne:p≠[]) {b:Nat}:∀ (ys:List D) (vs:List Value) (j o:Nat) {ct:Nat→D} {fp:Nat→Nat→Prop} {G:Nat→Prop} {w:World} (Fs:Nat→Nat→Prop),
  Hp cx ct vl fp G w→(∀ j,(ct j).refs fun d=>qSt k p d=false)→okCs (ct k) p j ys→vs.length=ys.length→(∀ (i:Nat) (y:D),ys[i]?=some y→Own w (stab cx fp G w) (vs.getD i undef) y (Fs i)∧(y.isAgg=false→(vs.getD i undef).oneCell'=true)) →
  (∀ i c,Fs i c→G c)→(∀ i i' c,i≠i'→Fs i c→¬ Fs i' c)→(∀ i,i<ys.length→adrAt w (vl k) (ct k) (bump p (j+i))=some ⟨b,o+i,none⟩) →
  ∃ fp' G',Hp cx (upd ct k (setCs (ct k) p j ys)) vl fp' G' (w.setCells b o vs)∧(∀ i,i<ys.length→(w.cell? ⟨b,o+i,none⟩).isSome=true∧w.frozen? ⟨b,o+i,none⟩=false)∧(∀ v∈vs,v.oneCell'=true)
 | [],vs,j,o,ct,fp,G,w,Fs,h,_,_,hl,_,_,_,_=>by
  have:vs=[]:=List.length_eq_zero_iff.1 hl
  subst this
  have e:upd ct k (ct k)=ct:=by funext i;simp only [upd];split<;>simp_all
  simp only [setCs,e]
  exact ⟨fp,G,h,fun i hi=>by simp at hi,fun v hv=>by cases hv⟩
 | y::r,[],j,o,ct,fp,G,w,Fs,_,_,_,hl,_,_,_,_=>by simp at hl
 | y::r,v::vs,j,o,ct,fp,G,w,Fs,h,hrefs,hok,hl,hown,hFG,hdis,hadr=>by
  obtain ⟨hc,hag,hok⟩:=hok
  have hbne:=bump_ne j hne
  have ha:=hadr 0 (by simp)
  rw [Nat.add_zero,Nat.add_zero] at ha
  obtain ⟨ho,h1⟩:=hown 0 y rfl
  have ho:Own w (stab cx fp G w) v y (Fs 0):=ho
  have h1:v.oneCell'=true:=h1 hag
  obtain ⟨hcell,hcr⟩:=contOf_cell (R:=RefOk w ct vl) ho h1
  generalize hy':(if cellLvl (ct k) (bump p j)=true then contOf y else y)=y'
  have hpart:PartOk w (stab cx fp G w) (RefOk w ct vl) v (Fs 0) (cellLvl (ct k) (bump p j)) y':=by
   unfold PartOk
   split
   ·rename_i hlv;rw [hlv] at hy';simp at hy';rw [← hy'];exact hcell
   ·rename_i hlv;rw [hlv] at hy';simp at hy';rw [← hy'];exact ho
  have hag':cellLvl (ct k) (bump p j)=false→y'.isAgg=false:=by
   intro hlv;rw [hlv] at hy';simp at hy';rw [← hy'];exact hag
  have hokc:okAtC (ct k) (bump p j) y':=by
   by_cases hlv:cellLvl (ct k) (bump p j)=true
   ·revert hc hlv
    cases ct k<;>intro hc hlv<;>try (cases hlv;done)
    rename_i l
    generalize bump p j=q at hc hlv hbne
    cases q with
    | nil=>exact absurd rfl hbne
    | cons s q=>cases q with
     | nil=>trivial
     | cons t q=>cases hlv
   ·exact okAtC_cell hc hbne (hag' (by simpa using hlv))
  have hq:qSt k (bump p j)=qSt k p:=qSt_eq (bump_len p j) k
  obtain ⟨⟨u,hu⟩,hfz,_,hst,_⟩:=h.store hc hbne ha (G':=fun c=>G c∧¬ Fs 0 c) hpart hokc (by rw [hq];exact hrefs) (fun hlv=>by rw [hlv] at hy';simp at hy';rw [← hy'];exact hcr _) (hFG 0) (fun _ h=>h.1) (fun _ h1 h2=>h2.2 h1)
  have hko:=h.ok k
  have hstab:∀ c,stab cx fp G w c→stab cx (upd fp k fun c=>fp k c∨Fs 0 c) (fun c=>G c∧¬ Fs 0 c) (w.setCell ⟨b,o,none⟩ v) c:=by
   rintro c ⟨k1,k2,k3⟩
   refine ⟨by simpa using k1,fun hg=>k2 hg.1,fun i hi=>?_⟩
   by_cases hik:i=k
   ·subst hik;rw [upd_same] at hi;exact hi.elim (k3 _) fun hh=>k2 (hFG 0 c hh)
   ·rw [upd_ne _ _ hik] at hi;exact k3 i hi
  have hbk:fp k b:=by
   obtain ⟨_,F1,F2,_,_,_,g4,_,_,g7⟩:=hko.splitAt hc hbne
   exact g4 _ (g7 _ ha).1
  have hout:∀ c,c≠b→(w.setCell ⟨b,o,none⟩ v).heap[c]?=w.heap[c]?:=fun c hc=>setCell_other v hc
  have hck:upd ct k ((ct k).setAt (bump p j) y') k=(ct k).setAt (bump p j) y':=upd_same _ _ _
  have hokr:∀ (r:List D) (j':Nat),j<j'→okCs (ct k) p j' r→okCs ((ct k).setAt (bump p j) y') p j' r:=by
   intro r
   induction r with
   | nil=>intro _ _ _;trivial
   | cons y0 r ih =>
    intro j' hj ⟨k1,k2,k3⟩
    exact ⟨(apart_cont hko hc k1 (apart_bump hne (by omega)) hokc).1,k2,ih (j'+1) (by omega) k3⟩
  have hhas:∀ (r:List D) (j' i:Nat),okCs (ct k) p j' r→i<r.length→(ct k).hasC (bump p (j'+i)):=by
   intro r
   induction r with
   | nil=>intro _ _ _ hi;simp at hi
   | cons y0 r ih =>
    intro j' i ⟨k1,k2,k3⟩ hi
    cases i with
    | zero=>exact k1
    | succ i =>
     have:=ih (j'+1) i k3 (by simpa using hi)
     rw [show j'+(i+1)=j'+1+i by omega];exact this
  obtain ⟨fp',G',r1,r2,r3⟩:=stores_hp hne r vs (j+1) (o+1) (fun i=>Fs (i+1)) hst
   (fun i=>by
     by_cases hik:i=k
     ·subst hik;rw [hck];exact refs_setAt hko hc hbne (hrefs i) fun hlv=>by rw [hlv] at hy';simp at hy';rw [← hy'];exact hcr _
     ·rw [upd_ne _ _ hik];exact hrefs i)
   (by rw [hck];exact hokr r (j+1) (by omega) hok) (by simpa using hl)
   (fun i y0 hy0=>by
     obtain ⟨q1,q2⟩:=hown (i+1) y0 (by simpa using hy0)
     have q1:Own w (stab cx fp G w) (vs.getD i undef) y0 (Fs (i+1)):=by simpa using q1
     have q2:y0.isAgg=false→(vs.getD i undef).oneCell'=true:=by simpa using q2
     refine ⟨q1.mono hstab (fun c hc=>hout c (by rintro rfl;exact hc.2.2 k hbk)) (fun c hc=>hout c ?_) (fun _ h=>h),q2⟩
     rintro rfl
     exact h.disG k _ hbk (hFG _ _ hc))
   (fun i c hi=>⟨hFG _ c hi,hdis (i+1) 0 c (by omega) hi⟩) (fun i i' c hii=>hdis (i+1) (i'+1) c (by omega))
   (fun i hi=>by
     rw [hck]
     have q0:=hhas r (j+1) i hok hi
     have q1:=hadr (i+1) (by simpa using hi)
     rw [show j+(i+1)=j+1+i by omega,show o+(i+1)=o+1+i by omega] at q1
     rw [((apart_cont hko hc q0 (apart_bump hne (by omega)) hokc).2.2.2 _).2]
     exact adr_stable hko q0 q1 fun c hc=>hout c hc)
  rw [hck] at r1
  have e:upd (upd ct k ((ct k).setAt (bump p j) y')) k (setCs ((ct k).setAt (bump p j) y') p (j+1) r)=upd ct k (setCs (ct k) p j (y::r)):=by
   funext i
   simp only [upd,setCs,hy']
   split<;>rfl
  rw [e] at r1
  refine ⟨fp',G',r1,fun i hi=>?_,fun v' hv'=>?_⟩
  ·cases i with
   | zero=>rw [Nat.add_zero];exact ⟨by rw [hu];rfl,hfz⟩
   | succ i =>
    obtain ⟨s1,s2⟩:=r2 i (by simpa using hi)
    rw [show o+1+i=o+(i+1) by omega] at s1 s2
    have e1:=World.cell?_setCells_out b [v] o w ⟨b,o+(i+1),none⟩ (fun _ _=>by right;simp)
    have e2:=World.frozen?_setCells b [v] o w ⟨b,o+(i+1),none⟩
    simp only [World.setCells] at e1 e2
    rw [e1] at s1
    rw [e2] at s2
    exact ⟨s1,s2⟩
  ·rcases List.mem_cons.1 hv' with rfl | hv'
   ·exact h1
   ·exact r3 v' hv'
theorem put_tmp {st:St} (h:Hp cx st.cont vl fp G w) (hw:st.wf) (u:Value):∃ fp',Hp cx (st.push .dead).cont (upd vl (1000+st.n) u) fp' G w∧(st.push .dead).wf∧(st.push .dead).n=st.n+1∧∀ i,i<1000→st.cont i=.dead→(st.push .dead).cont i=.dead:=by
 have hd:st.cont (1000+st.n)=.dead:=St.cont_out (by simp only [St.in,not_or,not_and];omega)
 refine ⟨upd fp (1000+st.n) fun _=>False,?_,St.wf_push hw _,rfl,fun i hi hd=>by rw [St.cont_push hw,upd_ne _ _ (by omega)];exact hd⟩
 rw [St.cont_push hw]
 exact h.put (by rw [hd];rfl) (F:=fun _=>False) (c:=.dead) (show Pl _ _ _ _ _ from Pl.dead) (fun _ h=>h.elim) (fun _ h=>h) (fun _ h=>h.elim) (fun _ _ h=>h)
theorem put_slot {st:St} (h:Hp cx st.cont vl fp G w) (hw:st.wf) {j:Nat} {v:Value} {c:D} {F:Nat→Prop} (hF:∀ b,F b→G b)
  (hc:ContOk w (stab cx fp G w) (RefOk w ((st.kill (qInto j)).cont) vl) v F c) (hrefs:c.refs (notInto j)) (hemp:c.isObj=false→∀ b,¬ F b) :
  ∃ fp' G',Hp cx ((st.kill (qInto j)).put j c).cont (upd vl j v) fp' G' w∧((st.kill (qInto j)).put j c).wf∧((st.kill (qInto j)).put j c).n=st.n∧∀ i,i≠j→st.cont i=.dead→((st.kill (qInto j)).put j c).cont i=.dead:=by
 have h1:=h.kill (qInto j)
 rw [← St.cont_kill] at h1
 have hw1:=St.wf_kill hw (qInto j)
 have h2:=h1.drop j (fun i=>by rw [St.cont_kill];exact refs_mono (fun d hd=>by cases d<;>simp_all [qInto,notInto]) (kill_refs (qInto j) (st.cont i))) v
 have hst:∀ b,stab cx fp G w b→stab cx (upd fp j fun _=>False) (fun b=>G b∨fp j b) w b:=by
  rintro b ⟨h1,h2,h3⟩
  refine ⟨h1,fun hg=>hg.elim h2 (h3 j),fun i hi=>?_⟩
  by_cases hij:i=j
  ·subst hij;rw [upd_same] at hi;exact hi
  ·rw [upd_ne _ _ hij] at hi;exact h3 i hi
 have ev:∀ (x y:Value),upd (upd vl j x) j y=upd vl j y:=fun x y=>by funext i;simp only [upd];split<;>rfl
 by_cases hin:(st.kill (qInto j)).in j
 ·have hput:=h2.put (k:=j) (v:=v) (c:=c) (F:=F) (G':=fun _=>False) (by rw [upd_same];rfl)
   (hc.mono (Q:=notInto j) hst (fun _ _=>rfl) (fun _ _=>rfl) (fun _ h=>h) hrefs fun v' d hq hr=>hr.keep (refs_mono (fun q hq=>by
     cases q<;>try trivial
     all_goals
      intro hp
      simp only [upd_ne _ _ (show _≠j from hq)]
      exact ⟨hp,trivial⟩) hq))
   (fun b hb=>.inl (hF b hb)) (fun _ h=>h.elim) (fun _ _ h=>h) hemp
  rw [ev] at hput
  have ec:upd (upd ((st.kill (qInto j)).cont) j .dead) j c=((st.kill (qInto j)).put j c).cont:=by
   rw [St.cont_put_in hw1 hin];funext i;simp only [upd];split<;>rfl
  rw [ec] at hput
  exact ⟨_,_,hput,St.wf_put hw1 _ _,by rw [St.n_put];rfl,fun i hi hd=>by rw [← ec,upd_ne _ _ hi,upd_ne _ _ hi];exact St.kill_dd _ hd⟩
 ·have ec:upd ((st.kill (qInto j)).cont) j .dead=((st.kill (qInto j)).put j c).cont:=by
   rw [St.cont_put_out hin];funext i;simp only [upd];split
   ·subst_vars;exact (St.cont_out hin).symm
   ·rfl
  rw [ec] at h2
  exact ⟨_,_,h2,St.wf_put hw1 _ _,by rw [St.n_put];rfl,fun i hi hd=>by rw [← ec,upd_ne _ _ hi];exact St.kill_dd _ hd⟩
theorem contOf_refs {v:Value} {d:D} {F:Nat→Prop} (h:Own w A v d F) (Q:D→Prop):(contOf d).refs Q:=by
 cases h with
 | fn=>exact trivial
 | @vw v d F h =>
  have:=h.norefs Q
  cases d<;>first | trivial | exact this
 | _=>trivial
theorem asg_hp {j:Nat} {x:D} {K:St→Prop} {st:St} (hK:asgK j x K st) (h:Hp cx st.cont vl fp G w) (hw:st.wf) (_:j<1000) {v:Value} (hv:Pl w (stab cx fp G w) (RefOk w st.cont vl) v x) (u:Value) :
  ∃ st' fp' G',K st'∧Hp cx st'.cont (upd (upd vl j v) (1000+st.n) u) fp' G' w∧st'.wf∧st'.n=st.n+1∧∀ i,i≠j→i<1000→st.cont i=.dead→st'.cont i=.dead:=by
 unfold asgK at hK
 obtain ⟨y,st1,fp1,G1,F,h1,h2,h3,h4,-,-⟩:=abs_sound x hK h hw (fun _ h=>h) hv
 obtain ⟨c1,c2⟩:=contOf_ok (R:=RefOk w ((st1.kill (qInto j)).cont) vl) h3
 have hcr:(contOf y).refs (notInto j):=contOf_refs h3 _
 have key:∃ F',(∀ b,F' b→G1 b)∧ContOk w (stab cx fp1 G1 w) (RefOk w ((st1.kill (qInto j)).cont) vl) v F' (contOf y)∧((contOf y).isObj=false→∀ b,¬ F' b):=by
  by_cases ho:(contOf y).isObj=true
  ·exact ⟨F,fun b hb=>(h2.hF b hb).1,c1,fun hh=>by rw [ho] at hh;cases hh⟩
  ·exact ⟨fun _=>False,fun _ h=>h.elim,c2 (by simpa using ho),fun _ _ h=>h⟩
 obtain ⟨F',k1,k2,k3⟩:=key
 obtain ⟨fp2,G2,k4,k5,k6,k6'⟩:=put_slot h2.hp h2.wf k1 k2 hcr k3
 obtain ⟨fp3,k7,k8,k9,k9'⟩:=put_tmp k4 k5 u
 rw [k6,h2.n] at k7 k9
 exact ⟨_,_,_,h1,k7,k8,k9,fun i hij hi hd=>k9' i hi (k6' i hij (h2.dd i hd))⟩
theorem asgP_hp {j:Nat} {x:D} {K:St→Prop} {st:St} (hK:asgPK j x K st) (h:Hp cx st.cont vl fp G w) (hw:st.wf) (hj:j<1000) {v:Value} (hv:Pl w (stab cx fp G w) (RefOk w st.cont vl) v x) (u:Value) :
  ∃ st' fp' G',K st'∧Hp cx st'.cont (upd (upd vl j v) (1000+st.n) u) fp' G' w∧st'.wf∧st'.n=st.n+1∧∀ i,i≠j→i<1000→st.cont i=.dead→st'.cont i=.dead:=by
 unfold asgPK at hK
 split at hK
 case h_2=>exact asg_hp hK h hw hj hv u
 case h_1 k q =>
 obtain ⟨y,st1,fp1,G1,F,h1,h2,h3⟩:=takeP_sound hK.1 hK.2 h hw (pl_adr hv)
 obtain ⟨c1,c2⟩:=contOf_ok (R:=RefOk w ((st1.kill (qInto j)).cont) vl) h3
 have hcr:(contOf y).refs (notInto j):=contOf_refs h3 _
 have key:∃ F',(∀ b,F' b→G1 b)∧ContOk w (stab cx fp1 G1 w) (RefOk w ((st1.kill (qInto j)).cont) vl) v F' (contOf y)∧((contOf y).isObj=false→∀ b,¬ F' b):=by
  by_cases ho:(contOf y).isObj=true
  ·exact ⟨F,fun b hb=>(h2.hF b hb).1,c1,fun hh=>by rw [ho] at hh;cases hh⟩
  ·exact ⟨fun _=>False,fun _ h=>h.elim,c2 (by simpa using ho),fun _ _ h=>h⟩
 obtain ⟨F',k1,k2,k3⟩:=key
 obtain ⟨fp2,G2,k4,k5,k6,k6'⟩:=put_slot h2.hp h2.wf k1 k2 hcr k3
 obtain ⟨fp3,k7,k8,k9,k9'⟩:=put_tmp k4 k5 u
 rw [k6,h2.n] at k7 k9
 exact ⟨_,_,_,h1,k7,k8,k9,fun i hij hi hd=>k9' i hi (k6' i hij (h2.dd i hd))⟩
theorem asgA_hp {j:Nat} {x:D} {K:St→Prop} {st:St} (hK:asgAK j x K st) (h:Hp cx st.cont vl fp G w) (hw:st.wf) {v:Value} (hv:Pl w (stab cx fp G w) (RefOk w st.cont vl) v x) (u:Value) :
  ∃ st' fp' G',K st'∧Hp cx st'.cont (upd (upd vl j v) (1000+st.n) u) fp' G' w∧st'.wf∧st'.n=st.n+1∧∀ i,i≠j→i<1000→st.cont i=.dead→st'.cont i=.dead:=by
 obtain ⟨h1,h2,h3⟩:=hK
 have hc:ContOk w (stab cx fp G w) (RefOk w ((st.kill (qInto j)).cont) vl) v (fun _=>False) x∧x.isObj=false:=by
  have hp:Pl w (stab cx fp G w) (RefOk w ((st.kill (qInto j)).cont) vl) v x:=hv.keep (fun _ h=>h) (fun _ _=>rfl) (by rw [St.cont_kill];exact refs_all (fun q=>keep_kill st.cont _ q) _)
  cases x<;>first | exact ⟨hp,rfl⟩ | cases h2
 obtain ⟨fp2,G2,k4,k5,k6,k6'⟩:=put_slot h hw (fun _ h=>h.elim) hc.1 h1 (fun _ _ h=>h)
 obtain ⟨fp3,k7,k8,k9,k9'⟩:=put_tmp k4 k5 u
 rw [k6] at k7 k9
 exact ⟨_,_,_,h3,k7,k8,k9,fun i hij hi hd=>k9' i hi (k6' i hij hd)⟩
theorem store_hp {n:Nat} {a x:D} {K:St→Prop} {st:St} (hK:storeK n a x K st) (h:Hp cx st.cont vl fp G w) (hw:st.wf) {va vx:Value} (ha:Pl w (stab cx fp G w) (RefOk w st.cont vl) va a) (hx:Pl w (stab cx fp G w) (RefOk w st.cont vl) vx x) (u:Value) :
  ∃ b o,va=.pointer (some ⟨b,o,none⟩)∧vx.cells.size=n∧(∀ i,i<n→(w.cell? ⟨b,o+i,none⟩).isSome=true∧w.frozen? ⟨b,o+i,none⟩=false)∧(∀ v∈vx.cells.toList,v.oneCell'=true) ∧
   ∃ st' fp' G',K st'∧Hp cx st'.cont (upd vl (1000+st.n) u) fp' G' (w.setCells b o vx.cells.toList)∧st'.wf∧st'.n=st.n+1∧∀ i,i<1000→st.cont i=.dead→st'.cont i=.dead:=by
 unfold storeK at hK
 split at hK
 case h_2=>exact hK.elim
 rename_i k p
 cases hl:x.cellsOf with
 | none=>rw [hl] at hK;exact hK.elim
 | some l =>
 rw [hl] at hK
 obtain ⟨hln,hsafe,hK⟩:=hK
 obtain ⟨hcs,hcell⟩:=value_cells hx hl
 obtain ⟨l',st1,fp1,G1,Fs,⟨h1,h1'⟩,h2,h3,h4,h5,h6⟩:=absL_sound l hK h hw (fun _ h=>h) hcell
 have hr0:RefOk w st.cont vl va (.adr k p):=pl_adr ha
 have hkeep:∀ q,refsL (fun s=>keepS s q) l→keepR w w st.cont st1.cont vl vl q:=h6
 have hsafe':refsL (fun s=>keepS s (.adr k p)) l:=refsL_iff.2 fun s hs=>refs_mono (fun d hd=>by
  cases d<;>try trivial
  rename_i j q
  by_cases hjk:k=j
  ·subst hjk
   rcases hd with hd | ⟨hd1,hd2⟩
   ·exact absurd rfl hd
   ·exact .inr ⟨hd1,by simp only [qDeep,hd2,Bool.and_false]⟩
  ·exact .inl (.inl hjk)) (refsL_iff.1 hsafe s hs)
 have hr1:RefOk w st1.cont vl va (.adr k p):=hr0.keep (hkeep _ hsafe')
 have hr2:RefOk w (st1.kill (qSt k p)).cont vl va (.adr k p):=by rw [St.cont_kill];exact hr1.keep (keep_kill _ _ _)
 have hh:=h2.hp.kill (qSt k p)
 rw [← St.cont_kill] at hh
 have hw1:=St.wf_kill h2.wf (qSt k p)
 obtain ⟨hhas,ad,had,rfl⟩:=hr2
 have hne:p≠[]:=by rintro rfl;simp [adrAt] at had
 have hspot:ad.spot=none:=by
  obtain ⟨_,_,_,_,_,_,_,_,_,g7⟩:=(hh.ok k).splitAt hhas hne
  exact (g7 _ had).2.1
 obtain ⟨b,o,sp⟩:=ad
 simp only at hspot
 subst hspot
 have hlen:vx.cells.toList.length=l'.length:=by rw [h3];simpa using hcs
 obtain ⟨fp2,G2,r1,r2,r3⟩:=stores_hp hne (b:=b) l' vx.cells.toList 0 o Fs hh (fun i=>by
   rw [St.cont_kill]
   exact (kill_refs (qSt k p) (st1.cont i))) h1 hlen
  (fun i y hy=>by
    obtain ⟨q1,q2,-⟩:=h4 i y hy
    have e:vx.cells.toList.getD i undef=vx.cells.getD i undef:=by simp
    rw [e]
    exact ⟨q1,q2⟩)
  (fun i c hc=>(h2.hF c ⟨i,hc⟩).1) h5 (fun i hi=>by rw [Nat.zero_add];exact adrAt_bump p had)
 have hin:(st1.kill (qSt k p)).in k:=by
  by_cases hin:(st1.kill (qSt k p)).in k
  ·exact hin
  ·rw [St.cont_out hin] at hhas;exact hhas.elim
 rw [← St.cont_put_in hw1 hin] at r1
 obtain ⟨fp3,k7,k8,k9,k9'⟩:=put_tmp r1 (St.wf_put hw1 _ _) u
 have hn:((st1.kill (qSt k p)).put k (setCs ((st1.kill (qSt k p)).cont k) p 0 l')).n=st.n:=by rw [St.n_put];exact h2.n
 rw [hn] at k7 k9
 refine ⟨b,o,rfl,by rw [hcs,hln],fun i hi=>r2 i (by omega),r3,_,_,_,h1',k7,k8,k9,fun i hi hd=>k9' i hi ?_⟩
 have hik:i≠k:=by rintro rfl;rw [St.kill_dd _ (h2.dd _ hd)] at hhas;exact hhas.elim
 rw [St.cont_put_in hw1 hin,upd_ne _ _ hik];exact St.kill_dd _ (h2.dd i hd)
end
def setRs (l:List D) (j:Nat):List D→List D
 | []=>l
 | y::r=>setRs (l.set j y) (j+1) r
section
variable {cx:Ctx} {vl:Nat→Value}
theorem storesR_hp {k b:Nat}:∀ (ys:List D) (vs:List Value) (j o:Nat) {ct:Nat→D} {l:List D} {fp:Nat→Nat→Prop} {G:Nat→Prop} {w:World},Hp cx ct vl fp G w→ct k=.box l→j+ys.length≤l.length →
  (∀ i,(ct i).refs fun d=>qSt k [(0,0)] d=false)→vs.length=ys.length →
  (∀ (i:Nat) (y:D),ys[i]?=some y→CellOk w (stab cx fp G w) (RefOk w ct vl) (vs.getD i undef) (fun _=>False) y∧(vs.getD i undef).oneCell'=true∧y.refs fun d=>qSt k [(0,0)] d=false) →
  (∀ i,i<ys.length→adrAt w (vl k) (ct k) [(0,j+i)]=some ⟨b,o+i,none⟩) →
  ∃ fp' G',Hp cx (upd ct k (.box (setRs l j ys))) vl fp' G' (w.setCells b o vs)∧(∀ i,i<ys.length→(w.cell? ⟨b,o+i,none⟩).isSome=true∧w.frozen? ⟨b,o+i,none⟩=false)∧(∀ v∈vs,v.oneCell'=true)
 | [],vs,j,o,ct,l,fp,G,w,h,hbx,_,_,hl,_,_=>by
  have:vs=[]:=List.length_eq_zero_iff.1 hl
  subst this
  have e:upd ct k (.box (setRs l j []))=ct:=by funext i;simp only [upd,setRs];split<;>simp_all
  rw [e]
  exact ⟨fp,G,h,fun i hi=>by simp at hi,fun v hv=>by cases hv⟩
 | y::r,[],j,o,ct,l,fp,G,w,_,_,_,_,hl,_,_=>by simp at hl
 | y::r,v::vs,j,o,ct,l,fp,G,w,h,hbx,hjl,hrefs,hl,hown,hadr=>by
  simp only [List.length_cons] at hjl
  have ha:=hadr 0 (by simp)
  rw [Nat.add_zero,Nat.add_zero] at ha
  obtain ⟨hcell,h1,hyr⟩:=hown 0 y rfl
  have hcell:CellOk w (stab cx fp G w) (RefOk w ct vl) v (fun _=>False) y:=hcell
  have h1:v.oneCell'=true:=h1
  have hlv:cellLvl (ct k) [(0,j)]=true:=by rw [hbx];rfl
  have hc:(ct k).hasC [(0,j)]:=by
   rw [hbx]
   exact ⟨rfl,by omega,trivial⟩
  have hq:qSt k [(0,j)]=qSt k [(0,0)]:=qSt_eq (by rfl) k
  have hpart:PartOk w (stab cx fp G w) (RefOk w ct vl) v (fun _=>False) (cellLvl (ct k) [(0,j)]) y:=by
   unfold PartOk
   rw [hlv]
   exact hcell
  have hokc:okAtC (ct k) [(0,j)] y:=by
   rw [hbx]
   trivial
  obtain ⟨⟨u,hu⟩,hfz,_,hst,hkp⟩:=h.store hc (by simp) ha (G':=G) hpart hokc (by rw [hq];exact hrefs) (fun _=>by rw [hq];exact hyr) (fun _ h=>h.elim) (fun _ h=>h) (fun _ h1 _=>h1)
  have hset:(ct k).setAt [(0,j)] y=.box (l.set j y):=by
   rw [hbx]
   rfl
  rw [hset] at hst hkp
  rw [hq] at hkp
  have hbk:fp k b:=by
   obtain ⟨_,F1,F2,_,_,_,g4,_,_,g7⟩:=(h.ok k).splitAt hc (by simp)
   exact g4 _ (g7 _ ha).1
  have hout:∀ c,c≠b→(w.setCell ⟨b,o,none⟩ v).heap[c]?=w.heap[c]?:=fun c hc=>setCell_other v hc
  have hstab:∀ c,stab cx fp G w c→stab cx (upd fp k fun c=>fp k c∨False) G (w.setCell ⟨b,o,none⟩ v) c:=by
   rintro c ⟨k1,k2,k3⟩
   refine ⟨by simpa using k1,k2,fun i hi=>?_⟩
   by_cases hik:i=k
   ·subst hik;rw [upd_same] at hi;exact hi.elim (k3 _) id
   ·rw [upd_ne _ _ hik] at hi;exact k3 i hi
  obtain ⟨fp',G',r1,r2,r3⟩:=storesR_hp r vs (j+1) (o+1) hst (upd_same _ _ _) (by rw [List.length_set];omega)
   (fun i=>by
     by_cases hik:i=k
     ·subst hik
      rw [upd_same,← hset]
      have:=refs_setAt (h.ok i) hc (by simp) (hrefs i) fun _=>hyr
      exact this
     ·rw [upd_ne _ _ hik];exact hrefs i) (by simpa using hl)
   (fun i y0 hy0=>by
     obtain ⟨q1,q2,q3⟩:=hown (i+1) y0 (by simpa using hy0)
     have q1:CellOk w (stab cx fp G w) (RefOk w ct vl) (vs.getD i undef) (fun _=>False) y0:=by simpa using q1
     have q2:(vs.getD i undef).oneCell'=true:=by simpa using q2
     exact ⟨q1.mono (Q:=fun d=>qSt k [(0,0)] d=false) hstab (fun c hc=>hout c (by rintro rfl;exact hc.2.2 k hbk)) (fun _ h=>h.elim) (fun _ h=>h) q3 fun v' d hd hr=>hr.keep (refs_mono hkp hd),q2,q3⟩)
   (fun i hi=>by
     have q1:=hadr (i+1) (by simpa using hi)
     rw [show j+(i+1)=j+1+i by omega,show o+(i+1)=o+1+i by omega] at q1
     rw [upd_same]
     rw [hbx] at q1
     exact q1)
  have e:upd (upd ct k (.box (l.set j y))) k (.box (setRs (l.set j y) (j+1) r))=upd ct k (.box (setRs l j (y::r))):=by
   funext i
   simp only [upd,setRs]
   split<;>rfl
  rw [e] at r1
  refine ⟨fp',G',r1,fun i hi=>?_,fun v' hv'=>?_⟩
  ·cases i with
   | zero=>rw [Nat.add_zero];exact ⟨by rw [hu];rfl,hfz⟩
   | succ i =>
    obtain ⟨s1,s2⟩:=r2 i (by simpa using hi)
    rw [show o+1+i=o+(i+1) by omega] at s1 s2
    have e1:=World.cell?_setCells_out b [v] o w ⟨b,o+(i+1),none⟩ (fun _ _=>by right;simp)
    have e2:=World.frozen?_setCells b [v] o w ⟨b,o+(i+1),none⟩
    simp only [World.setCells] at e1 e2
    rw [e1] at s1
    rw [e2] at s2
    exact ⟨s1,s2⟩
  ·rcases List.mem_cons.1 hv' with rfl | hv'
   ·exact h1
   ·exact r3 v' hv'
theorem rsvL_get:∀ {l:List D} {i:Nat} {y:D},rsvL l=true→l[i]?=some y→y.rsv=true
 | [],i,y,_,h=>by simp at h
 | x::r,0,y,hl,h=>by
  simp only [rsvL,Bool.and_eq_true] at hl
  simp only [List.getElem?_cons_zero,Option.some.injEq] at h
  rw [← h];exact hl.1
 | x::r,i+1,y,hl,h=>by
  simp only [rsvL,Bool.and_eq_true] at hl
  exact rsvL_get hl.2 (by simpa using h)
theorem refsL_get {Q:D→Prop}:∀ {l:List D} {i:Nat} {y:D},refsL Q l→l[i]?=some y→y.refs Q
 | [],i,y,_,h=>by simp at h
 | x::r,0,y,hl,h=>by
  simp only [List.getElem?_cons_zero,Option.some.injEq] at h
  rw [← h];exact hl.1
 | x::r,i+1,y,hl,h=>refsL_get (l:=r) (i:=i) hl.2 (by simpa using h)
theorem rsv_ok {ct:Nat→D} {A:Nat→Prop} {w:World} {v:Value} {y:D} (h:Pl w A (RefOk w ct vl) v y) (hy:y.rsv=true):CellOk w A (RefOk w ct vl) v (fun _=>False) y∧(y.isObj=false→True):=by
 cases y<;>first | (cases hy;done) | exact ⟨h,fun _=>trivial⟩
theorem rsv_one {cx:Ctx} {ct:Nat→D} {fp:Nat→Nat→Prop} {G:Nat→Prop} {A:Nat→Prop} {w:World} {v:Value} {y:D} (_:Hp cx ct vl fp G w) (h:Pl w A (RefOk w ct vl) v y) (hy:y.rsv=true):v.oneCell'=true:=by
 cases y<;>try (cases hy;done)
 case int=>obtain ⟨rfl,_⟩:=pl_int h;rfl
 case bool=>have:=pl_bool h;subst this;rfl
 case str=>obtain ⟨rfl,_⟩:=pl_str h;rfl
 case slice=>have:=pl_slice h;cases this<;>rfl
 case ptr=>obtain ⟨_,_,rfl,_⟩:=pl_ptr h;rfl
 case sub=>obtain ⟨_,_,⟨_,_,_,rfl⟩ | ⟨_,rfl⟩⟩:=pl_sub h<;>rfl
 case adr=>obtain ⟨_,a,_,rfl⟩:=pl_adr h;rfl
 case nilp=>have:=pl_rd h (by simp) (by simp) (by simp) (by simp) (by simp);cases this;rfl
 case nils=>have:=pl_rd h (by simp) (by simp) (by simp) (by simp) (by simp);cases this;rfl
theorem setRs_get:∀ {ys l:List D} {j i:Nat},(setRs l j ys)[i]?=if j≤i∧i<j+ys.length∧i<l.length then ys[i-j]? else l[i]?
 | [],l,j,i=>by rw [if_neg (by simp;omega)];rfl
 | y::r,l,j,i=>by
  rw [setRs,setRs_get,List.length_set]
  by_cases hi:j+1≤i∧i<j+1+r.length∧i<l.length
  ·rw [if_pos hi,if_pos (by simp only [List.length_cons];omega),show i-j=i-(j+1)+1 by omega,List.getElem?_cons_succ]
  ·rw [if_neg hi,List.getElem?_set]
   by_cases hij:j=i
   ·subst hij
    by_cases hl:j<l.length
    ·rw [if_pos rfl,if_pos hl,if_pos (by simp only [List.length_cons];omega),Nat.sub_self];rfl
    ·rw [if_pos rfl,if_neg hl,if_neg (by omega),List.getElem?_eq_none (by omega)]
   ·rw [if_neg hij,if_neg (by simp only [List.length_cons];omega)]
theorem setRs_all {l ys:List D} (h:ys.length=l.length):setRs l 0 ys=ys:=by
 refine List.ext_getElem? fun i=>?_
 rw [setRs_get]
 split
 ·rw [Nat.sub_zero]
 ·rw [List.getElem?_eq_none (by omega),List.getElem?_eq_none (by omega)]
theorem storeR_hp {fp:Nat→Nat→Prop} {G:Nat→Prop} {w:World} {n:Nat} {a x:D} {K:St→Prop} {st:St} (hK:storeRK n a x K st) (h:Hp cx st.cont vl fp G w) (hw:st.wf) {va vx:Value} (ha:Pl w (stab cx fp G w) (RefOk w st.cont vl) va a) (hx:Pl w (stab cx fp G w) (RefOk w st.cont vl) vx x) (u:Value) :
  ∃ b o,va=.pointer (some ⟨b,o,none⟩)∧vx.cells.size=n∧(∀ i,i<n→(w.cell? ⟨b,o+i,none⟩).isSome=true∧w.frozen? ⟨b,o+i,none⟩=false)∧(∀ v∈vx.cells.toList,v.oneCell'=true) ∧
   ∃ st' fp' G',K st'∧Hp cx st'.cont (upd vl (1000+st.n) u) fp' G' (w.setCells b o vx.cells.toList)∧st'.wf∧st'.n=st.n+1∧∀ i,i<1000→st.cont i=.dead→st'.cont i=.dead:=by
 unfold storeRK at hK
 split at hK
 case h_2=>exact hK.elim
 rename_i k p
 obtain ⟨rfl,hK⟩:=hK
 cases hb:(st.cont k).boxO? with
 | none=>rw [hb] at hK;exact hK.elim
 | some l0 =>
 rw [hb] at hK
 obtain ⟨hl0,hK⟩:=hK
 have hbx0:st.cont k=.box l0:=by
  cases hc:st.cont k<;>rw [hc] at hb<;>simp only [D.boxO?,reduceCtorEq,Option.some.injEq] at hb
  rw [hb]
 cases hl:x.cellsOf with
 | none=>rw [hl] at hK;exact hK.elim
 | some l =>
 rw [hl] at hK
 obtain ⟨hln,hrs,hrf,hK⟩:=hK
 obtain ⟨hcs,hcell⟩:=value_cells hx hl
 have hr0:RefOk w st.cont vl va (.adr k [(0,0)]):=pl_adr ha
 have hr2:RefOk w (st.kill (qSt k [(0,0)])).cont vl va (.adr k [(0,0)]):=by rw [St.cont_kill];exact hr0.keep (keep_kill _ _ _)
 have hh:=h.kill (qSt k [(0,0)])
 rw [← St.cont_kill] at hh
 have hw1:=St.wf_kill hw (qSt k [(0,0)])
 obtain ⟨hhas,ad,had,rfl⟩:=hr2
 have hspot:ad.spot=none:=by
  obtain ⟨_,_,_,_,_,_,_,_,_,g7⟩:=(hh.ok k).splitAt hhas (by simp)
  exact (g7 _ had).2.1
 obtain ⟨b,o,sp⟩:=ad
 simp only at hspot
 subst hspot
 have hlen:vx.cells.toList.length=l.length:=by simpa using hcs
 have hbx:(st.kill (qSt k [(0,0)])).cont k=.box (killL (qSt k [(0,0)]) l0):=by rw [St.cont_kill];show D.kill _ (st.cont k)=_;rw [hbx0];rfl
 obtain ⟨fp2,G2,r1,r2,r3⟩:=storesR_hp l vx.cells.toList 0 o hh hbx (by rw [killL_length];omega) (fun i=>by
   rw [St.cont_kill]
   exact (kill_refs (qSt k [(0,0)]) (st.cont i))) hlen
  (fun i y hy=>by
    have e:vx.cells.toList.getD i undef=vx.cells.getD i undef:=by simp
    rw [e]
    have hpl:=hcell i y hy
    have hyr:=rsvL_get hrs hy
    refine ⟨?_,rsv_one h hpl hyr,refsL_get hrf hy⟩
    exact (rsv_ok hpl hyr).1.mono (Q:=fun _=>True) (fun _ h=>h) (fun _ _=>rfl) (fun _ _=>rfl) (fun _ h=>h) (refs_all (fun _=>trivial) _) fun v' d _ hr=>hr.keep (refs_all (fun q=>by rw [St.cont_kill];exact keep_kill _ _ _) _))
  (fun i hi=>by
    have:=adrAt_bump (n:=i) [(0,0)] had
    exact this)
 rw [setRs_all (by rw [killL_length];omega)] at r1
 have hin:(st.kill (qSt k [(0,0)])).in k:=by
  by_cases hin:(st.kill (qSt k [(0,0)])).in k
  ·exact hin
  ·rw [St.cont_out hin] at hhas;exact hhas.elim
 rw [← St.cont_put_in hw1 hin] at r1
 obtain ⟨fp3,k7,k8,k9,k9'⟩:=put_tmp r1 (St.wf_put hw1 _ _) u
 have hn:((st.kill (qSt k [(0,0)])).put k (.box l)).n=st.n:=by rw [St.n_put];rfl
 rw [hn] at k7 k9
 refine ⟨b,o,rfl,by rw [hcs,hln],fun i hi=>r2 i (by omega),r3,_,_,_,hK,k7,k8,k9,fun i hi hd=>k9' i hi ?_⟩
 have hik:i≠k:=by rintro rfl;rw [St.kill_dd _ hd] at hhas;exact hhas.elim
 rw [St.cont_put_in hw1 hin,upd_ne _ _ hik];exact St.kill_dd _ hd
end
end Go.D3
