/- OBJECTS GO BY OTHER NUMBERS; CALLS THAT SLOTS ARE LENT TO. Generic. -/
import Derived.Test.YtpjbamibcngihaaGreatDoorHC
import Derived.Laws.IdiomCopy
import Derived.Deep.Upon
import Derived.Deep.AppendSrc
namespace Go.D3
open Go
section
variable{cx:Ctx}{vl:Nat->Value}{fp:Nat->Nat->Prop}{G:Nat->Prop}{w:World}{A:Nat->Prop}
theorem yh{y:D}(hy:y.isAgg=false):∀(p:Path)(x:D),eh x p y
 | [],_=>trivial
 | [(i,off)],x=>by
  simp only[eh];generalize x.un=z;cases z<;>first | trivial | exact .inr hy
 | (i,off)::s::p,x=>yh hy (s::p) (x.aZ i off)
theorem Qp{c y:D}{p:Path}(hp:c.aX p)(hne:p≠[])(hy:y.isAgg=false):fg c p y:=by
 cases c<;>try exact hp.elim
 case o x=>exact yh hy p x
 case row=>exact absurd hp hne
 case box l =>
  cases p with
  | nil=>exact absurd rfl hne
  | cons s p =>
   cases p with
   | nil=>exact trivial
   | cons t p=>exact yh hy (t::p) _
theorem wm:∀{p:Path}{i j:Nat},p≠[]->i≠j->apart (bump p i) (bump p j)=true
 | [],_,_,h,_=>absurd rfl h
 | [(a,b)],i,j,_,h=>by simp[bump,apart,h]
 | s::t::p,i,j,_,h=>by
  simp only[bump,apart,if_true];exact wm (p:=t::p) (by simp) h
theorem Dd:∀(p:Path)(j:Nat),(bump p j).length=p.length
 | [],_=>rfl
 | [_],_=>rfl
 | _::t::p,j=>by simp only[bump,List.length_cons,Dd (t::p) j]
theorem v8{w':World}:∀(p:Path){v:Value}{x:D}{F:Nat->Prop}{a:Addr},an w A v x F->x.has p->aH w v x p=some a->(∀c,c≠a.block->w'.heap[c]?=w.heap[c]?)->aH w' v x p=some a
 | [],v,x,F,a,_,_,h,_=>by simp[aH] at h
 | [(i,off)],v,x,F,a,_,_,h,_=>h
 | (i,off)::s::p,v,x,F,a,h,hp,ha,hw=>by
  obtain⟨e1,e2,e3,e4⟩:=kl h i off;obtain⟨u,F1,F2,g1,g2,g3,g4,g5,g6,g7⟩:=h.split (e2.1 hp.1);rw[<-e1] at g2
  have ha':aH w u (x.aZ i off) (s::p)=some a:=by
   simp only[aH,e4,g1,Option.bind_some] at ha;exact ha
  obtain⟨_,G1,G2,_,_,k3,k4,_,_,k7⟩:=an.splitAt (s::p) g2 hp.2;have hab:=k4 _ (k7 a ha').1
  have hkv:cF w' v x i off=some u:=by
   obtain⟨hu,_⟩:=h.un;unfold cF;rw[hu];cases x<;>try exact(e2.1 hp.1).elim
   all_goals first
    | exact g1
    | (simp only[lh] at g1|-
       generalize hka:er v _ i off=ka at g1|-
       cases ka with
       | none=>simp at g1
       | some ka =>
        obtain⟨j1,j2,j3,_⟩:=g7 ka hka;simp only[Option.bind_some] at g1|-
        rw[<-g1];obtain⟨ab,ao,as⟩:=ka;simp only at j2;cases as with
        | some _=>simp at j2
        | none=>exact cell_of_heap (hw _ (by rintro rfl;exact g5 _ hab j1)))
  simp only[aH,hkv,Option.bind_some];exact v8 (s::p) g2 hp.2 ha' hw
theorem Lq{R:Value->D->Prop}{v:Value}{c:D}{F:Nat->Prop}{p:Path}{a:Addr}{w':World}(h:aK w A R v F c)(hp:c.aX p)(ha:aH w v c p=some a)(hw:∀d,d≠a.block->w'.heap[d]?=w.heap[d]?):aH w' v c p=some a:=by
 cases c<;>try exact hp.elim
 case o x =>
  rw[(gP h w p).2] at ha;rw[(gP h w' p).2];exact v8 p h hp ha hw
 case row z l=>simp only[D.aX] at hp;subst hp;simp[aH] at ha
 case box l =>
  cases p with
  | nil=>simp[aH] at ha
  | cons s p =>
   obtain⟨i,off⟩:=s;obtain⟨_,b,cs,e,Fs,h1,h2,h3,h4,h5,h6,h7⟩:=h;obtain⟨rfl,ho,hp⟩:=hp;subst h1;cases p with
   | nil=>exact ha
   | cons t p =>
    simp only at hp;split at hp
    ·rename_i y hy
     have hget:l[off]?=some (.o y):=by
      rw[List.getElem?_eq_getElem ho];rw[List.getD_eq_getElem?_getD,List.getElem?_eq_getElem ho] at hy;simpa using hy
     have hown:=h4 off _ hget;simp only[b7] at hown
     have hcell:∀w'',w''.heap[b]?=w.heap[b]?->cF w'' (.pointer (some ⟨b,0,none⟩)) (.box l) 0 off=some (cs.getD off undef):=by
      intro w'' hb;show w''.cell? ⟨b,0+off,none⟩=_;rw[Nat.zero_add];exact ee (hb.trans h2) (by omega)
     have hk:D.aZ (.box l) 0 off=.o y:=hy
     have ha':aH w (cs.getD off undef) y (t::p)=some a:=by
      rw[aH,hcell w rfl,Option.bind_some,hk,(gP hown w (t::p)).2] at ha
      ·exact ha
      ·simp
     obtain⟨_,G1,G2,_,_,k3,k4,_,_,k7⟩:=an.splitAt (t::p) hown hp;have hab:=k4 _ (k7 a ha').1;rw[aH,hcell w' (hw b (by rintro rfl;exact(h6 _ _ hab).1 rfl)),Option.bind_some,hk,(gP hown w' (t::p)).2]
     ·exact v8 (t::p) hown hp ha' hw
     ·simp
    ·exact hp.elim
theorem DH{R:Value->D->Prop}{v:Value}{x:D}{F:Nat->Prop}(h:an w A v x F)(h1:v.oneCell'=true):b7 w A R v F (aV x)/\∀Q,(aV x).refs Q:=by
 cases h with
 | int h=>exact⟨.rd (.int h),fun _=>trivial⟩
 | bool=>exact⟨.rd .bool,fun _=>trivial⟩
 | str h=>exact⟨.rd (.str h),fun _=>trivial⟩
 | nil=>exact⟨.nil,fun _=>trivial⟩
 | bp=>exact⟨.rd .bp,fun _=>trivial⟩
 | fn=>exact⟨.rd (.fn rfl (fun j x hx=>by simp at hx)),fun _=>trivial⟩
 | @vw v d F h =>
  cases d
  case slice z l=>exact⟨Pl.rd h,fun _=>trivial⟩
  case ptr l=>exact⟨Pl.rd h,fun _=>trivial⟩
  case agg l=>cases h;cases h1
  case au l=>cases h;cases h1
  case fn f l=>exact⟨Pl.rd h,fun Q=>h.x9 Q⟩
  case mp ks vs=>exact⟨Pl.rd h,fun _=>trivial⟩
  all_goals exact⟨Pl.dead,fun _=>trivial⟩
 | dead=>exact⟨Pl.dead,fun _=>trivial⟩
 | mp hF hb hE=>exact⟨.mp hF hb hE,fun _=>trivial⟩
 | bO=>exact⟨.rd .bO,fun _=>trivial⟩
 | bD h=>exact⟨Pl.rd (.bD h),fun _=>trivial⟩
 | bj=>exact⟨.rd .bj,fun _=>trivial⟩
 | bR hF hb hs=>exact⟨.bR hF hb hs,fun _=>trivial⟩
 | slice Fs hb hroom hc hm hz hzz hsz hr hF hfs hdis=>exact⟨.slice Fs hb hroom hc hm hz hzz hsz hr hF hfs hdis,fun _=>trivial⟩
 | agg=>cases h1
 | au=>cases h1
 | ptr Fs hb hs hr hF hfs hdis=>exact⟨.ptr Fs hb hs hr hF hfs hdis,fun _=>trivial⟩
theorem KM{k:Nat}{p:Path}(hne:p≠[]){b:Nat}:∀(ys:List D)(vs:List Value)(j o:Nat){ct:Nat->D}{fp:Nat->Nat->Prop}{G:Nat->Prop}{w:World}(Fs:Nat->Nat->Prop),
  Hp cx ct vl fp G w->(∀j,(ct j).refs fun d=>bN k p d=false)->mF (ct k) p j ys->vs.length=ys.length->(∀(i:Nat)(y:D),ys[i]?=some y->an w (aq cx fp G w) (vs.getD i undef) y (Fs i)/\(y.isAgg=false->(vs.getD i undef).oneCell'=true)) ->
  (∀i c,Fs i c->G c)->(∀i i' c,i≠i'->Fs i c->¬Fs i' c)->(∀i,i<ys.length->aH w (vl k) (ct k) (bump p (j+i))=some ⟨b,o+i,none⟩) ->
  ∃fp' G',Hp cx (ay ct k (ez (ct k) p j ys)) vl fp' G' (w.setCells b o vs)/\(∀i,i<ys.length->(w.cell? ⟨b,o+i,none⟩).isSome=true/\w.frozen? ⟨b,o+i,none⟩=false)/\(∀v∈vs,v.oneCell'=true)
 | [],vs,j,o,ct,fp,G,w,Fs,h,_,_,hl,_,_,_,_=>by
  have:vs=[]:=List.length_eq_zero_iff.1 hl;subst this;have e:ay ct k (ct k)=ct:=by funext i;simp only[ay];split<;>simp_all
  simp only[ez,e];exact⟨fp,G,h,fun i hi=>by simp at hi,fun v hv=>by cases hv⟩
 | y::r,[],j,o,ct,fp,G,w,Fs,_,_,_,hl,_,_,_,_=>by simp at hl
 | y::r,v::vs,j,o,ct,fp,G,w,Fs,h,hrefs,hok,hl,hown,hFG,hdis,hadr=>by
  obtain⟨hc,hag,hok⟩:=hok;have hbne:=De j hne;have ha:=hadr 0 (by simp);rw[Nat.add_zero,Nat.add_zero] at ha;obtain⟨ho,h1⟩:=hown 0 y rfl;have ho:an w (aq cx fp G w) v y (Fs 0):=ho;have h1:v.oneCell'=true:=h1 hag;obtain⟨hcell,hcr⟩:=DH (R:=aj w ct vl) ho h1;generalize hy':(if bz (ct k) (bump p j)=true then aV y else y)=y'
  have hpart:fI w (aq cx fp G w) (aj w ct vl) v (Fs 0) (bz (ct k) (bump p j)) y':=by
   unfold fI;split
   ·rename_i hlv;rw[hlv] at hy';simp at hy';rw[<-hy'];exact hcell
   ·rename_i hlv;rw[hlv] at hy';simp at hy';rw[<-hy'];exact ho
  have hag':bz (ct k) (bump p j)=false->y'.isAgg=false:=by
   intro hlv;rw[hlv] at hy';simp at hy';rw[<-hy'];exact hag
  have hokc:fg (ct k) (bump p j) y':=by
   by_cases hlv:bz (ct k) (bump p j)=true
   ·revert hc hlv
    cases ct k<;>intro hc hlv<;>try(cases hlv;done)
    rename_i l;generalize bump p j=q at hc hlv hbne;cases q with
    | nil=>exact absurd rfl hbne
    | cons s q=>cases q with
     | nil=>trivial
     | cons t q=>cases hlv
   ·exact Qp hc hbne (hag' (by simpa using hlv))
  have hq:bN k (bump p j)=bN k p:=Ha (Dd p j) k;obtain⟨⟨u,hu⟩,hfz,_,aO,_⟩:=h.store hc hbne ha (G':=fun c=>G c/\¬Fs 0 c) hpart hokc (by rw[hq];exact hrefs) (fun hlv=>by rw[hlv] at hy';simp at hy';rw[<-hy'];exact hcr _) (hFG 0) (fun _ h=>h.1) (fun _ h1 h2=>h2.2 h1);have hko:=h.ok k
  have hstab:∀c,aq cx fp G w c->aq cx (ay fp k fun c=>fp k c\/Fs 0 c) (fun c=>G c/\¬Fs 0 c) (w.setCell ⟨b,o,none⟩ v) c:=by
   rintro c ⟨k1,k2,k3⟩;refine⟨by simpa using k1,fun hg=>k2 hg.1,fun i hi=>?_⟩;by_cases hik:i=k
   ·subst hik;rw[bc] at hi;exact hi.elim (k3 _) fun hh=>k2 (hFG 0 c hh)
   ·rw[aG _ _ hik] at hi;exact k3 i hi
  have hbk:fp k b:=by
   obtain⟨_,F1,F2,_,_,_,g4,_,_,g7⟩:=hko.splitAt hc hbne;exact g4 _ (g7 _ ha).1
  have hout:∀c,c≠b->(w.setCell ⟨b,o,none⟩ v).heap[c]?=w.heap[c]?:=fun c hc=>rT v hc
  have hck:ay ct k ((ct k).setAt (bump p j) y') k=(ct k).setAt (bump p j) y':=bc _ _ _
  have hokr:∀(r:List D)(j':Nat),j<j'->mF (ct k) p j' r->mF ((ct k).setAt (bump p j) y') p j' r:=by
   intro r;induction r with
   | nil=>intro _ _ _;trivial
   | cons y0 r ih =>
    intro j' hj ⟨k1,k2,k3⟩;exact⟨(sI hko hc k1 (wm hne (by omega)) hokc).1,k2,ih (j'+1) (by omega) k3⟩
  have hhas:∀(r:List D)(j' i:Nat),mF (ct k) p j' r->i<r.length->(ct k).aX (bump p (j'+i)):=by
   intro r;induction r with
   | nil=>intro _ _ _ hi;simp at hi
   | cons y0 r ih =>
    intro j' i ⟨k1,k2,k3⟩ hi;cases i with
    | zero=>exact k1
    | succ i =>
     have:=ih (j'+1) i k3 (by simpa using hi);rw[show j'+(i+1)=j'+1+i by omega];exact this
  obtain⟨fp',G',r1,r2,r3⟩:=KM hne r vs (j+1) (o+1) (fun i=>Fs (i+1)) aO
   (fun i=>by
     by_cases hik:i=k
     ·subst hik;rw[hck];exact rK hko hc hbne (hrefs i) fun hlv=>by rw[hlv] at hy';simp at hy';rw[<-hy'];exact hcr _
     ·rw[aG _ _ hik];exact hrefs i)
   (by rw[hck];exact hokr r (j+1) (by omega) hok) (by simpa using hl)
   (fun i y0 hy0=>by
     obtain⟨q1,q2⟩:=hown (i+1) y0 (by simpa using hy0);have q1:an w (aq cx fp G w) (vs.getD i undef) y0 (Fs (i+1)):=by simpa using q1
     have q2:y0.isAgg=false->(vs.getD i undef).oneCell'=true:=by simpa using q2
     refine⟨q1.mono hstab (fun c hc=>hout c (by rintro rfl;exact hc.2.2 k hbk)) (fun c hc=>hout c ?_) (fun _ h=>h),q2⟩;rintro rfl
     exact h.cK k _ hbk (hFG _ _ hc))
   (fun i c hi=>⟨hFG _ c hi,hdis (i+1) 0 c (by omega) hi⟩) (fun i i' c hii=>hdis (i+1) (i'+1) c (by omega))
   (fun i hi=>by
     rw[hck];have q0:=hhas r (j+1) i hok hi;have q1:=hadr (i+1) (by simpa using hi);rw[show j+(i+1)=j+1+i by omega,show o+(i+1)=o+1+i by omega] at q1;rw[((sI hko hc q0 (wm hne (by omega)) hokc).2.2.2 _).2]
     exact Lq hko q0 q1 fun c hc=>hout c hc)
  rw[hck] at r1
  have e:ay (ay ct k ((ct k).setAt (bump p j) y')) k (ez ((ct k).setAt (bump p j) y') p (j+1) r)=ay ct k (ez (ct k) p j (y::r)):=by
   funext i;simp only[ay,ez,hy'];split<;>rfl
  rw[e] at r1;refine⟨fp',G',r1,fun i hi=>?_,fun v' hv'=>?_⟩
  ·cases i with
   | zero=>rw[Nat.add_zero];exact⟨by rw[hu];rfl,hfz⟩
   | succ i =>
    obtain⟨s1,s2⟩:=r2 i (by simpa using hi);rw[show o+1+i=o+(i+1) by omega] at s1 s2;have e1:=World.cell?_setCells_out b [v] o w ⟨b,o+(i+1),none⟩ (fun _ _=>by right;simp);have e2:=World.frozen?_setCells b [v] o w ⟨b,o+(i+1),none⟩;simp only[World.setCells] at e1 e2;rw[e1] at s1;rw[e2] at s2;exact⟨s1,s2⟩
  ·rcases List.mem_cons.1 hv' with rfl | hv'
   ·exact h1
   ·exact r3 v' hv'
theorem rI{st:St}(h:Hp cx st.cont vl fp G w)(hw:st.wf)(u:Value):∃fp',Hp cx (st.push .dead).cont (ay vl (1000+st.n) u) fp' G w/\(st.push .dead).wf/\(st.push .dead).n=st.n+1/\∀i,i<1000->st.cont i=.dead->(st.push .dead).cont i=.dead:=by
 have hd:st.cont (1000+st.n)=.dead:=St.cZ (by simp only[St.in,not_or,not_and];omega);refine⟨ay fp (1000+st.n) fun _=>False,?_,St.fo hw _,rfl,fun i hi hd=>by rw[St.dz hw,aG _ _ (by omega)];exact hd⟩;rw[St.dz hw];exact h.put (by rw[hd];rfl) (F:=fun _=>False) (c:=.dead) (show Pl _ _ _ _ _ from Pl.dead) (fun _ h=>h.elim) (fun _ h=>h) (fun _ h=>h.elim) (fun _ _ h=>h)
theorem rH{st:St}(h:Hp cx st.cont vl fp G w)(hw:st.wf){j:Nat}{v:Value}{c:D}{F:Nat->Prop}(hF:∀b,F b->G b)
  (hc:aK w (aq cx fp G w) (aj w ((st.kill (aW j)).cont) vl) v F c) (hrefs:c.refs (cG j)) (hemp:c.isObj=false->∀b,¬F b) :
  ∃fp' G',Hp cx ((st.kill (aW j)).put j c).cont (ay vl j v) fp' G' w/\((st.kill (aW j)).put j c).wf/\((st.kill (aW j)).put j c).n=st.n/\∀i,i≠j->st.cont i=.dead->((st.kill (aW j)).put j c).cont i=.dead:=by
 have h1:=h.kill (aW j);rw[<-St.dy] at h1;have hw1:=St.gr hw (aW j);have h2:=h1.drop j (fun i=>by rw[St.dy];exact dq (fun d hd=>by cases d<;>simp_all[aW,cG]) (iR (aW j) (st.cont i))) v
 have aO:∀b,aq cx fp G w b->aq cx (ay fp j fun _=>False) (fun b=>G b\/fp j b) w b:=by
  rintro b ⟨h1,h2,h3⟩;refine⟨h1,fun hg=>hg.elim h2 (h3 j),fun i hi=>?_⟩;by_cases hij:i=j
  ·subst hij;rw[bc] at hi;exact hi
  ·rw[aG _ _ hij] at hi;exact h3 i hi
 have ev:∀(x y:Value),ay (ay vl j x) j y=ay vl j y:=fun x y=>by funext i;simp only[ay];split<;>rfl
 by_cases hin:(st.kill (aW j)).in j
 ·have hput:=h2.put (k:=j) (v:=v) (c:=c) (F:=F) (G':=fun _=>False) (by rw[bc];rfl)
   (hc.mono (Q:=cG j) aO (fun _ _=>rfl) (fun _ _=>rfl) (fun _ h=>h) hrefs fun v' d hq hr=>hr.cz (dq (fun q hq=>by
     cases q<;>try trivial
     all_goals
      intro hp;simp only[aG _ _ (show _≠j from hq)]
      exact⟨hp,trivial⟩) hq))
   (fun b hb=>.inl (hF b hb)) (fun _ h=>h.elim) (fun _ _ h=>h) hemp
  rw[ev] at hput
  have ec:ay (ay ((st.kill (aW j)).cont) j .dead) j c=((st.kill (aW j)).put j c).cont:=by
   rw[St.eC hw1 hin];funext i;simp only[ay];split<;>rfl
  rw[ec] at hput;exact⟨_,_,hput,St.eV hw1 _ _,by rw[St.fO];rfl,fun i hi hd=>by rw[<-ec,aG _ _ hi,aG _ _ hi];exact St.jB _ hd⟩
 ·have ec:ay ((st.kill (aW j)).cont) j .dead=((st.kill (aW j)).put j c).cont:=by
   rw[St.pa hin];funext i;simp only[ay];split
   ·subst_vars;exact(St.cZ hin).symm
   ·rfl
  rw[ec] at h2;exact⟨_,_,h2,St.eV hw1 _ _,by rw[St.fO];rfl,fun i hi hd=>by rw[<-ec,aG _ _ hi];exact St.jB _ hd⟩
theorem wT{v:Value}{d:D}{F:Nat->Prop}(h:an w A v d F)(Q:D->Prop):(aV d).refs Q:=by
 cases h with
 | fn=>exact trivial
 | @vw v d F h =>
  have:=h.x9 Q;cases d<;>first | trivial | exact this
 | _=>trivial
theorem C7{j:Nat}{x:D}{K:St->Prop}{st:St}(hK:lO j x K st)(h:Hp cx st.cont vl fp G w)(hw:st.wf)(_:j<1000){v:Value}(hv:Pl w (aq cx fp G w) (aj w st.cont vl) v x)(u:Value) :
  ∃st' fp' G',K st'/\Hp cx st'.cont (ay (ay vl j v) (1000+st.n) u) fp' G' w/\st'.wf/\st'.n=st.n+1/\∀i,i≠j->i<1000->st.cont i=.dead->st'.cont i=.dead:=by
 unfold lO at hK;obtain⟨y,st1,fp1,G1,F,h1,h2,h3,h4,-,-⟩:=sC x hK h hw (fun _ h=>h) hv;obtain⟨c1,c2⟩:=nG (R:=aj w ((st1.kill (aW j)).cont) vl) h3;have hcr:(aV y).refs (cG j):=wT h3 _
 have key:∃F',(∀b,F' b->G1 b)/\aK w (aq cx fp1 G1 w) (aj w ((st1.kill (aW j)).cont) vl) v F' (aV y)/\((aV y).isObj=false->∀b,¬F' b):=by
  by_cases ho:(aV y).isObj=true
  ·exact⟨F,fun b hb=>(h2.hF b hb).1,c1,fun hh=>by rw[ho] at hh;cases hh⟩
  ·exact⟨fun _=>False,fun _ h=>h.elim,c2 (by simpa using ho),fun _ _ h=>h⟩
 obtain⟨F',k1,k2,k3⟩:=key;obtain⟨fp2,G2,k4,k5,k6,k6'⟩:=rH h2.hp h2.wf k1 k2 hcr k3;obtain⟨fp3,k7,k8,k9,k9'⟩:=rI k4 k5 u;rw[k6,h2.n] at k7 k9;exact⟨_,_,_,h1,k7,k8,k9,fun i hij hi hd=>k9' i hi (k6' i hij (h2.dd i hd))⟩
theorem LJ{j:Nat}{x:D}{K:St->Prop}{st:St}(hK:kO j x K st)(h:Hp cx st.cont vl fp G w)(hw:st.wf)(hj:j<1000){v:Value}(hv:Pl w (aq cx fp G w) (aj w st.cont vl) v x)(u:Value) :
  ∃st' fp' G',K st'/\Hp cx st'.cont (ay (ay vl j v) (1000+st.n) u) fp' G' w/\st'.wf/\st'.n=st.n+1/\∀i,i≠j->i<1000->st.cont i=.dead->st'.cont i=.dead:=by
 unfold kO at hK;split at hK
 case h_2=>exact C7 hK h hw hj hv u
 case h_1 k q =>
 obtain⟨y,st1,fp1,G1,F,h1,h2,h3⟩:=WM hK.1 hK.2 h hw (fR hv);obtain⟨c1,c2⟩:=nG (R:=aj w ((st1.kill (aW j)).cont) vl) h3;have hcr:(aV y).refs (cG j):=wT h3 _
 have key:∃F',(∀b,F' b->G1 b)/\aK w (aq cx fp1 G1 w) (aj w ((st1.kill (aW j)).cont) vl) v F' (aV y)/\((aV y).isObj=false->∀b,¬F' b):=by
  by_cases ho:(aV y).isObj=true
  ·exact⟨F,fun b hb=>(h2.hF b hb).1,c1,fun hh=>by rw[ho] at hh;cases hh⟩
  ·exact⟨fun _=>False,fun _ h=>h.elim,c2 (by simpa using ho),fun _ _ h=>h⟩
 obtain⟨F',k1,k2,k3⟩:=key;obtain⟨fp2,G2,k4,k5,k6,k6'⟩:=rH h2.hp h2.wf k1 k2 hcr k3;obtain⟨fp3,k7,k8,k9,k9'⟩:=rI k4 k5 u;rw[k6,h2.n] at k7 k9;exact⟨_,_,_,h1,k7,k8,k9,fun i hij hi hd=>k9' i hi (k6' i hij (h2.dd i hd))⟩
theorem LI{j:Nat}{x:D}{K:St->Prop}{st:St}(hK:oX j x K st)(h:Hp cx st.cont vl fp G w)(hw:st.wf){v:Value}(hv:Pl w (aq cx fp G w) (aj w st.cont vl) v x)(u:Value) :
  ∃st' fp' G',K st'/\Hp cx st'.cont (ay (ay vl j v) (1000+st.n) u) fp' G' w/\st'.wf/\st'.n=st.n+1/\∀i,i≠j->i<1000->st.cont i=.dead->st'.cont i=.dead:=by
 obtain⟨h1,h2,h3⟩:=hK
 have hc:aK w (aq cx fp G w) (aj w ((st.kill (aW j)).cont) vl) v (fun _=>False) x/\x.isObj=false:=by
  have hp:Pl w (aq cx fp G w) (aj w ((st.kill (aW j)).cont) vl) v x:=hv.cz (fun _ h=>h) (fun _ _=>rfl) (by rw[St.dy];exact bq (fun q=>nW st.cont _ q) _);cases x<;>first | exact⟨hp,rfl⟩ | cases h2
 obtain⟨fp2,G2,k4,k5,k6,k6'⟩:=rH h hw (fun _ h=>h.elim) hc.1 h1 (fun _ _ h=>h);obtain⟨fp3,k7,k8,k9,k9'⟩:=rI k4 k5 u;rw[k6] at k7 k9;exact⟨_,_,_,h3,k7,k8,k9,fun i hij hi hd=>k9' i hi (k6' i hij hd)⟩
theorem Wz{n:Nat}{a x:D}{K:St->Prop}{st:St}(hK:jO n a x K st)(h:Hp cx st.cont vl fp G w)(hw:st.wf){va vx:Value}(ha:Pl w (aq cx fp G w) (aj w st.cont vl) va a)(hx:Pl w (aq cx fp G w) (aj w st.cont vl) vx x)(u:Value) :
  ∃b o,va=.pointer (some ⟨b,o,none⟩)/\vx.cells.size=n/\(∀i,i<n->(w.cell? ⟨b,o+i,none⟩).isSome=true/\w.frozen? ⟨b,o+i,none⟩=false)/\(∀v∈vx.cells.toList,v.oneCell'=true) /\
   ∃st' fp' G',K st'/\Hp cx st'.cont (ay vl (1000+st.n) u) fp' G' (w.setCells b o vx.cells.toList)/\st'.wf/\st'.n=st.n+1/\∀i,i<1000->st.cont i=.dead->st'.cont i=.dead:=by
 unfold jO at hK;split at hK
 case h_2=>exact hK.elim
 rename_i k p;cases hl:x.cellsOf with
 | none=>rw[hl] at hK;exact hK.elim
 | some l =>
 rw[hl] at hK;obtain⟨hln,hsafe,hK⟩:=hK;obtain⟨hcs,hcell⟩:=nj hx hl;obtain⟨l',st1,fp1,G1,Fs,⟨h1,h1'⟩,h2,h3,h4,h5,h6⟩:=je l hK h hw (fun _ h=>h) hcell;have hr0:aj w st.cont vl va (.aw k p):=fR ha;have hkeep:∀q,bK (fun s=>kj s q) l->df w w st.cont st1.cont vl vl q:=h6
 have hsafe':bK (fun s=>kj s (.aw k p)) l:=bB.2 fun s hs=>dq (fun d hd=>by
  cases d<;>try trivial
  rename_i j q;by_cases hjk:k=j
  ·subst hjk
   rcases hd with hd | ⟨hd1,hd2⟩
   ·exact absurd rfl hd
   ·exact .inr ⟨hd1,by simp only[bL,hd2,Bool.and_false]⟩
  ·exact .inl (.inl hjk)) (bB.1 hsafe s hs)
 have hr1:aj w st1.cont vl va (.aw k p):=hr0.cz (hkeep _ hsafe');have hr2:aj w (st1.kill (bN k p)).cont vl va (.aw k p):=by rw[St.dy];exact hr1.cz (nW _ _ _)
 have hh:=h2.hp.kill (bN k p);rw[<-St.dy] at hh;have hw1:=St.gr h2.wf (bN k p);obtain⟨hhas,ad,had,rfl⟩:=hr2;have hne:p≠[]:=by rintro rfl;simp[aH] at had
 have hspot:ad.spot=none:=by
  obtain⟨_,_,_,_,_,_,_,_,_,g7⟩:=(hh.ok k).splitAt hhas hne;exact(g7 _ had).2.1
 obtain⟨b,o,sp⟩:=ad;simp only at hspot;subst hspot;have hlen:vx.cells.toList.length=l'.length:=by rw[h3];simpa using hcs
 obtain⟨fp2,G2,r1,r2,r3⟩:=KM hne (b:=b) l' vx.cells.toList 0 o Fs hh (fun i=>by
   rw[St.dy]
   exact(iR (bN k p) (st1.cont i))) h1 hlen
  (fun i y hy=>by
    obtain⟨q1,q2,-⟩:=h4 i y hy;have e:vx.cells.toList.getD i undef=vx.cells.getD i undef:=by simp
    rw[e]
    exact⟨q1,q2⟩)
  (fun i c hc=>(h2.hF c ⟨i,hc⟩).1) h5 (fun i hi=>by rw[Nat.zero_add];exact qu p had)
 have hin:(st1.kill (bN k p)).in k:=by
  by_cases hin:(st1.kill (bN k p)).in k
  ·exact hin
  ·rw[St.cZ hin] at hhas;exact hhas.elim
 rw[<-St.eC hw1 hin] at r1;obtain⟨fp3,k7,k8,k9,k9'⟩:=rI r1 (St.eV hw1 _ _) u;have hn:((st1.kill (bN k p)).put k (ez ((st1.kill (bN k p)).cont k) p 0 l')).n=st.n:=by rw[St.fO];exact h2.n
 rw[hn] at k7 k9;refine⟨b,o,rfl,by rw[hcs,hln],fun i hi=>r2 i (by omega),r3,_,_,_,h1',k7,k8,k9,fun i hi hd=>k9' i hi ?_⟩;have hik:i≠k:=by rintro rfl;rw[St.jB _ (h2.dd _ hd)] at hhas;exact hhas.elim
 rw[St.eC hw1 hin,aG _ _ hik];exact St.jB _ (h2.dd i hd)
end
def kF(l:List D)(j:Nat):List D->List D
 | []=>l
 | y::r=>kF (l.set j y) (j+1) r
section
variable{cx:Ctx}{vl:Nat->Value}
theorem KL{k b:Nat}:∀(ys:List D)(vs:List Value)(j o:Nat){ct:Nat->D}{l:List D}{fp:Nat->Nat->Prop}{G:Nat->Prop}{w:World},Hp cx ct vl fp G w->ct k=.box l->j+ys.length<=l.length ->
  (∀i,(ct i).refs fun d=>bN k [(0,0)] d=false)->vs.length=ys.length ->
  (∀(i:Nat)(y:D),ys[i]?=some y->b7 w (aq cx fp G w) (aj w ct vl) (vs.getD i undef) (fun _=>False) y/\(vs.getD i undef).oneCell'=true/\y.refs fun d=>bN k [(0,0)] d=false) ->
  (∀i,i<ys.length->aH w (vl k) (ct k) [(0,j+i)]=some ⟨b,o+i,none⟩) ->
  ∃fp' G',Hp cx (ay ct k (.box (kF l j ys))) vl fp' G' (w.setCells b o vs)/\(∀i,i<ys.length->(w.cell? ⟨b,o+i,none⟩).isSome=true/\w.frozen? ⟨b,o+i,none⟩=false)/\(∀v∈vs,v.oneCell'=true)
 | [],vs,j,o,ct,l,fp,G,w,h,hbx,_,_,hl,_,_=>by
  have:vs=[]:=List.length_eq_zero_iff.1 hl;subst this;have e:ay ct k (.box (kF l j []))=ct:=by funext i;simp only[ay,kF];split<;>simp_all
  rw[e];exact⟨fp,G,h,fun i hi=>by simp at hi,fun v hv=>by cases hv⟩
 | y::r,[],j,o,ct,l,fp,G,w,_,_,_,_,hl,_,_=>by simp at hl
 | y::r,v::vs,j,o,ct,l,fp,G,w,h,hbx,hjl,hrefs,hl,hown,hadr=>by
  simp only[List.length_cons] at hjl;have ha:=hadr 0 (by simp);rw[Nat.add_zero,Nat.add_zero] at ha;obtain⟨hcell,h1,hyr⟩:=hown 0 y rfl;have hcell:b7 w (aq cx fp G w) (aj w ct vl) v (fun _=>False) y:=hcell;have h1:v.oneCell'=true:=h1;have hlv:bz (ct k) [(0,j)]=true:=by rw[hbx];rfl
  have hc:(ct k).aX [(0,j)]:=by
   rw[hbx];exact⟨rfl,by omega,trivial⟩
  have hq:bN k [(0,j)]=bN k [(0,0)]:=Ha (by rfl) k
  have hpart:fI w (aq cx fp G w) (aj w ct vl) v (fun _=>False) (bz (ct k) [(0,j)]) y:=by
   unfold fI;rw[hlv];exact hcell
  have hokc:fg (ct k) [(0,j)] y:=by
   rw[hbx];trivial
  obtain⟨⟨u,hu⟩,hfz,_,aO,hkp⟩:=h.store hc (by simp) ha (G':=G) hpart hokc (by rw[hq];exact hrefs) (fun _=>by rw[hq];exact hyr) (fun _ h=>h.elim) (fun _ h=>h) (fun _ h1 _=>h1)
  have hset:(ct k).setAt [(0,j)] y=.box (l.set j y):=by
   rw[hbx];rfl
  rw[hset] at aO hkp;rw[hq] at hkp
  have hbk:fp k b:=by
   obtain⟨_,F1,F2,_,_,_,g4,_,_,g7⟩:=(h.ok k).splitAt hc (by simp);exact g4 _ (g7 _ ha).1
  have hout:∀c,c≠b->(w.setCell ⟨b,o,none⟩ v).heap[c]?=w.heap[c]?:=fun c hc=>rT v hc
  have hstab:∀c,aq cx fp G w c->aq cx (ay fp k fun c=>fp k c\/False) G (w.setCell ⟨b,o,none⟩ v) c:=by
   rintro c ⟨k1,k2,k3⟩;refine⟨by simpa using k1,k2,fun i hi=>?_⟩;by_cases hik:i=k
   ·subst hik;rw[bc] at hi;exact hi.elim (k3 _) id
   ·rw[aG _ _ hik] at hi;exact k3 i hi
  obtain⟨fp',G',r1,r2,r3⟩:=KL r vs (j+1) (o+1) aO (bc _ _ _) (by rw[List.length_set];omega)
   (fun i=>by
     by_cases hik:i=k
     ·subst hik
      rw[bc,<-hset];have:=rK (h.ok i) hc (by simp) (hrefs i) fun _=>hyr
      exact this
     ·rw[aG _ _ hik];exact hrefs i) (by simpa using hl)
   (fun i y0 hy0=>by
     obtain⟨q1,q2,q3⟩:=hown (i+1) y0 (by simpa using hy0);have q1:b7 w (aq cx fp G w) (aj w ct vl) (vs.getD i undef) (fun _=>False) y0:=by simpa using q1
     have q2:(vs.getD i undef).oneCell'=true:=by simpa using q2
     exact⟨q1.mono (Q:=fun d=>bN k [(0,0)] d=false) hstab (fun c hc=>hout c (by rintro rfl;exact hc.2.2 k hbk)) (fun _ h=>h.elim) (fun _ h=>h) q3 fun v' d hd hr=>hr.cz (dq hkp hd),q2,q3⟩)
   (fun i hi=>by
     have q1:=hadr (i+1) (by simpa using hi);rw[show j+(i+1)=j+1+i by omega,show o+(i+1)=o+1+i by omega] at q1;rw[bc];rw[hbx] at q1
     exact q1)
  have e:ay (ay ct k (.box (l.set j y))) k (.box (kF (l.set j y) (j+1) r))=ay ct k (.box (kF l j (y::r))):=by
   funext i;simp only[ay,kF];split<;>rfl
  rw[e] at r1;refine⟨fp',G',r1,fun i hi=>?_,fun v' hv'=>?_⟩
  ·cases i with
   | zero=>rw[Nat.add_zero];exact⟨by rw[hu];rfl,hfz⟩
   | succ i =>
    obtain⟨s1,s2⟩:=r2 i (by simpa using hi);rw[show o+1+i=o+(i+1) by omega] at s1 s2;have e1:=World.cell?_setCells_out b [v] o w ⟨b,o+(i+1),none⟩ (fun _ _=>by right;simp);have e2:=World.frozen?_setCells b [v] o w ⟨b,o+(i+1),none⟩;simp only[World.setCells] at e1 e2;rw[e1] at s1;rw[e2] at s2;exact⟨s1,s2⟩
  ·rcases List.mem_cons.1 hv' with rfl | hv'
   ·exact h1
   ·exact r3 v' hv'
theorem Ic:∀{l:List D}{i:Nat}{y:D},oC l=true->l[i]?=some y->y.gL=true
 | [],i,y,_,h=>by simp at h
 | x::r,0,y,hl,h=>by
  simp only[oC,Bool.and_eq_true] at hl;simp only[List.getElem?_cons_zero,Option.some.injEq] at h;rw[<-h];exact hl.1
 | x::r,i+1,y,hl,h=>by
  simp only[oC,Bool.and_eq_true] at hl;exact Ic hl.2 (by simpa using h)
theorem He{Q:D->Prop}:∀{l:List D}{i:Nat}{y:D},bK Q l->l[i]?=some y->y.refs Q
 | [],i,y,_,h=>by simp at h
 | x::r,0,y,hl,h=>by
  simp only[List.getElem?_cons_zero,Option.some.injEq] at h;rw[<-h];exact hl.1
 | x::r,i+1,y,hl,h=>He (l:=r) (i:=i) hl.2 (by simpa using h)
theorem Vt{ct:Nat->D}{A:Nat->Prop}{w:World}{v:Value}{y:D}(h:Pl w A (aj w ct vl) v y)(hy:y.gL=true):b7 w A (aj w ct vl) v (fun _=>False) y/\(y.isObj=false->True):=by
 cases y<;>first | (cases hy;done) | exact⟨h,fun _=>trivial⟩
theorem Vu{cx:Ctx}{ct:Nat->D}{fp:Nat->Nat->Prop}{G:Nat->Prop}{A:Nat->Prop}{w:World}{v:Value}{y:D}(_:Hp cx ct vl fp G w)(h:Pl w A (aj w ct vl) v y)(hy:y.gL=true):v.oneCell'=true:=by
 cases y<;>try(cases hy;done)
 case int=>obtain⟨rfl,_⟩:=ey h;rfl
 case bool=>have:=pl_bool h;subst this;rfl
 case str=>obtain⟨rfl,_⟩:=gG h;rfl
 case slice=>have:=oq h;cases this<;>rfl
 case ptr=>obtain⟨_,_,rfl,_⟩:=pQ h;rfl
 case sub=>obtain⟨_,_,⟨_,_,_,rfl⟩ | ⟨_,rfl⟩⟩:=dW h<;>rfl
 case aw=>obtain⟨_,a,_,rfl⟩:=fR h;rfl
 case bp=>have:=b6 h (by simp) (by simp) (by simp) (by simp) (by simp);cases this;rfl
 case aB=>have:=b6 h (by simp) (by simp) (by simp) (by simp) (by simp);cases this;rfl
theorem Ku:∀{ys l:List D}{j i:Nat},(kF l j ys)[i]?=if j<=i/\i<j+ys.length/\i<l.length then ys[i-j]? else l[i]?
 | [],l,j,i=>by rw[if_neg (by simp;omega)];rfl
 | y::r,l,j,i=>by
  rw[kF,Ku,List.length_set];by_cases hi:j+1<=i/\i<j+1+r.length/\i<l.length
  ·rw[if_pos hi,if_pos (by simp only[List.length_cons];omega),show i-j=i-(j+1)+1 by omega,List.getElem?_cons_succ]
  ·rw[if_neg hi,List.getElem?_set]
   by_cases hij:j=i
   ·subst hij
    by_cases hl:j<l.length
    ·rw[if_pos rfl,if_pos hl,if_pos (by simp only[List.length_cons];omega),Nat.sub_self];rfl
    ·rw[if_pos rfl,if_neg hl,if_neg (by omega),List.getElem?_eq_none (by omega)]
   ·rw[if_neg hij,if_neg (by simp only[List.length_cons];omega)]
theorem VR{l ys:List D}(h:ys.length=l.length):kF l 0 ys=ys:=by
 refine List.ext_getElem? fun i=>?_
 rw[Ku];split
 ·rw[Nat.sub_zero]
 ·rw[List.getElem?_eq_none (by omega),List.getElem?_eq_none (by omega)]
theorem Wy{fp:Nat->Nat->Prop}{G:Nat->Prop}{w:World}{n:Nat}{a x:D}{K:St->Prop}{st:St}(hK:nf n a x K st)(h:Hp cx st.cont vl fp G w)(hw:st.wf){va vx:Value}(ha:Pl w (aq cx fp G w) (aj w st.cont vl) va a)(hx:Pl w (aq cx fp G w) (aj w st.cont vl) vx x)(u:Value) :
  ∃b o,va=.pointer (some ⟨b,o,none⟩)/\vx.cells.size=n/\(∀i,i<n->(w.cell? ⟨b,o+i,none⟩).isSome=true/\w.frozen? ⟨b,o+i,none⟩=false)/\(∀v∈vx.cells.toList,v.oneCell'=true) /\
   ∃st' fp' G',K st'/\Hp cx st'.cont (ay vl (1000+st.n) u) fp' G' (w.setCells b o vx.cells.toList)/\st'.wf/\st'.n=st.n+1/\∀i,i<1000->st.cont i=.dead->st'.cont i=.dead:=by
 unfold nf at hK;split at hK
 case h_2=>exact hK.elim
 rename_i k p;obtain⟨rfl,hK⟩:=hK;cases hb:(st.cont k).qB with
 | none=>rw[hb] at hK;exact hK.elim
 | some l0 =>
 rw[hb] at hK;obtain⟨hl0,hK⟩:=hK
 have hbx0:st.cont k=.box l0:=by
  cases hc:st.cont k<;>rw[hc] at hb<;>simp only[D.qB,reduceCtorEq,Option.some.injEq] at hb;rw[hb]
 cases hl:x.cellsOf with
 | none=>rw[hl] at hK;exact hK.elim
 | some l =>
 rw[hl] at hK;obtain⟨hln,hrs,hrf,hK⟩:=hK;obtain⟨hcs,hcell⟩:=nj hx hl;have hr0:aj w st.cont vl va (.aw k [(0,0)]):=fR ha;have hr2:aj w (st.kill (bN k [(0,0)])).cont vl va (.aw k [(0,0)]):=by rw[St.dy];exact hr0.cz (nW _ _ _)
 have hh:=h.kill (bN k [(0,0)]);rw[<-St.dy] at hh;have hw1:=St.gr hw (bN k [(0,0)]);obtain⟨hhas,ad,had,rfl⟩:=hr2
 have hspot:ad.spot=none:=by
  obtain⟨_,_,_,_,_,_,_,_,_,g7⟩:=(hh.ok k).splitAt hhas (by simp);exact(g7 _ had).2.1
 obtain⟨b,o,sp⟩:=ad;simp only at hspot;subst hspot;have hlen:vx.cells.toList.length=l.length:=by simpa using hcs
 have hbx:(st.kill (bN k [(0,0)])).cont k=.box (eu (bN k [(0,0)]) l0):=by rw[St.dy];show D.kill _ (st.cont k)=_;rw[hbx0];rfl
 obtain⟨fp2,G2,r1,r2,r3⟩:=KL l vx.cells.toList 0 o hh hbx (by rw[lj];omega) (fun i=>by
   rw[St.dy]
   exact(iR (bN k [(0,0)]) (st.cont i))) hlen
  (fun i y hy=>by
    have e:vx.cells.toList.getD i undef=vx.cells.getD i undef:=by simp
    rw[e];have hpl:=hcell i y hy;have hyr:=Ic hrs hy;refine⟨?_,Vu h hpl hyr,He hrf hy⟩
    exact(Vt hpl hyr).1.mono (Q:=fun _=>True) (fun _ h=>h) (fun _ _=>rfl) (fun _ _=>rfl) (fun _ h=>h) (bq (fun _=>trivial) _) fun v' d _ hr=>hr.cz (bq (fun q=>by rw[St.dy];exact nW _ _ _) _))
  (fun i hi=>by
    have:=qu (n:=i) [(0,0)] had
    exact this)
 rw[VR (by rw[lj];omega)] at r1
 have hin:(st.kill (bN k [(0,0)])).in k:=by
  by_cases hin:(st.kill (bN k [(0,0)])).in k
  ·exact hin
  ·rw[St.cZ hin] at hhas;exact hhas.elim
 rw[<-St.eC hw1 hin] at r1;obtain⟨fp3,k7,k8,k9,k9'⟩:=rI r1 (St.eV hw1 _ _) u;have hn:((st.kill (bN k [(0,0)])).put k (.box l)).n=st.n:=by rw[St.fO];rfl
 rw[hn] at k7 k9;refine⟨b,o,rfl,by rw[hcs,hln],fun i hi=>r2 i (by omega),r3,_,_,_,hK,k7,k8,k9,fun i hi hd=>k9' i hi ?_⟩;have hik:i≠k:=by rintro rfl;rw[St.jB _ hd] at hhas;exact hhas.elim
 rw[St.eC hw1 hin,aG _ _ hik];exact St.jB _ hd
end
end Go.D3
namespace Go.D3
open Go
theorem L6{L M:List D}{sz j:Nat}(hz : 0<sz):cellAt (L++M) sz j=if j<L.length*sz then cellAt L sz j else cellAt M sz (j-L.length*sz):=by
 unfold cellAt;by_cases h:j<L.length*sz
 ·rw[if_pos h,List.getElem?_append_left ((Nat.div_lt_iff_lt_mul hz).2 h)]
 ·have hge:L.length*sz<=j:=by omega
  have hq:L.length<=j / sz:=(Nat.le_div_iff_mul_le hz).2 hge;rw[if_neg h,List.getElem?_append_right hq];obtain⟨m,rfl⟩:∃m,j=L.length*sz+m:=⟨j-L.length*sz,by omega⟩;have e1:(L.length*sz+m) / sz=L.length+m / sz:=by rw[Nat.mul_comm,Nat.mul_add_div hz]
  have e2:(L.length*sz+m) % sz=m % sz:=by rw[Nat.mul_comm,Nat.mul_add_mod]
  rw[e1,e2];simp
theorem zR(b:Nat)(e:TypeId)(fz:Nat×Nat):∀(vs:List Value)(o:Nat)(cs:Array Value)(w:World),w.heap[b]?=some (.cells cs e fz)->w.setCells b o vs=w.setRow b (eT cs o vs)
 | [],o,cs,w,h=>by rw[World.setCells,eT,setRow_self w b cs e fz h]
 | v::r,o,cs,w,h=>by
  rw[World.setCells,setCell_eq_setRow w b o cs e fz v h,zR b e fz r (o+1) (cs.setIfInBounds o v) _ (setRow_heap w b cs _ e _ h),setRow_setRow,eT]
theorem Gx{w w':World}{A:Nat->Prop}{z:D}{L M:List D}{sz b' off' cap':Nat}{cs':Array Value}{e:TypeId}{fz:Nat×Nat}{ov nv:Nat->Value}(Fs G:Nat->Nat->Prop){F':Nat->Prop}
  (hold:∀j x,cellAt L sz j=some x->an w A (ov j) x (Fs j)) (hdis:∀i j c,i≠j->Fs i c->¬Fs j c)
  (hnew:∀j x,cellAt M sz j=some x->an w A (nv j) x (G j)) (hGdis:∀i j c,i≠j->G i c->¬G j c) (hFG:∀i j c,Fs i c->¬G j c)
  (hb:w'.heap[b']?=some (.cells cs' e fz)) (hroom:off'+cap'*sz<=cs'.size/\(fz.2<=fz.1\/cs'.size<=fz.1)) (hc:L.length+M.length<=cap') (hm:cap'<=maxLen) (hz : 0<sz) (hzz:z.cells.length=sz)
  (hL:∀x∈L,x.cells.length=sz) (hM:∀x∈M,x.cells.length=sz)
  (hv:∀j,j<(L.length+M.length)*sz->cs'.getD (off'+j) undef=if j<L.length*sz then ov j else nv (j-L.length*sz))
  (hA:∀c,A c->w'.heap[c]?=w.heap[c]?) (hkeep:∀c,((∃j,Fs j c)\/∃j,G j c)->w'.heap[c]?=w.heap[c]?/\c≠b'/\F' c) (hF':F' b') :
  an w' A (.slice (some ⟨b',off',none⟩) (L.length+M.length) cap') (.slice z (L++M)) F':=by
 have hLM:∀x∈L++M,x.cells.length=sz:=fun x hx=>(List.mem_append.1 hx).elim (hL x) (hM x)
 have key:an w' A (.slice (some ⟨b',off',none⟩) (L++M).length cap') (.slice z (L++M)) F':=by
  refine .slice (sz:=sz) (fun j c=>if j<L.length*sz then Fs j c else G (j-L.length*sz) c) hb hroom (by simpa using hc) hm hz hzz hLM (fun j x hx=>?_) hF' (fun j c hj=>?_) (fun i j c hij hi hj=>?_)
  ·have hj:=kR hz hx
   rw[List.length_append] at hj;rw[L6 hz] at hx;rw[hv j hj];by_cases h1:j<L.length*sz
   ·simp only[h1,if_true] at hx|-
    exact(hold j x hx).mono (fun _ h=>h) hA (fun c hc=>(hkeep c (.inl ⟨j,hc⟩)).1) fun _ h=>h
   ·simp only[h1,if_false] at hx|-
    exact(hnew _ x hx).mono (fun _ h=>h) hA (fun c hc=>(hkeep c (.inr ⟨_,hc⟩)).1) fun _ h=>h
  ·split at hj
   ·exact(hkeep c (.inl ⟨j,hj⟩)).2
   ·exact(hkeep c (.inr ⟨_,hj⟩)).2
  ·split at hi<;>split at hj
   ·exact hdis i j c hij hi hj
   ·exact hFG i _ c hi hj
   ·exact hFG j _ c hj hi
   ·exact hGdis _ _ c (by omega) hi hj
 rw[List.length_append] at key;exact key
section
variable{P:Program}{w:World}
theorem CX{t ty e:TypeId}{i:TypeInfo}{zv:Value}(ht:P.underlying t=some (.slice e))(hi:P.info? e=some i)(hz:i.zero=some zv)(hzs:zv.cells.size=i.size)(hsz : 0<i.size)(hby : 0<i.bytes)
  {A:Nat->Prop} {v:Value} {z:D} {L M:List D} {F:Nat->Prop} (hown:an w A v (.slice z L) F) (hzz:z.cells.length=i.size) (hM:∀x∈M,x.cells.length=i.size)
  {x:Value} {news:List Value} (hs:Src P i.size t x M.length news w) (G:Nat->Nat->Prop) (hA:∀c,A c->c<w.heap.size/\¬F c) (hFlt:∀c,F c->c<w.heap.size) (hGlt:∀j c,G j c->c<w.heap.size)
  (hnew:∀j d,cellAt M i.size j=some d->an w A (news.getD j undef) d (G j)) (hGdis:∀i j c,i≠j->G i c->¬G j c) (hFG:∀j c,F c->¬G j c)
  (hbytes:(L.length+M.length)*i.bytes<=140737488355328) :
  ∃v' w' F',(Builtin.append_ #[t,t] ty #[v,x]).run P w=.ok v' w'/\an w' A v' (.slice z (L++M)) F'/\w.heap.size<=w'.heap.size/\(∀b,b<w.heap.size->¬F b->w'.heap[b]?=w.heap[b]?) /\
   w'.os=w.os/\w'.tape=w.tape/\w'.output=w.output/\∀b,F' b->b<w'.heap.size/\(F b\/(∃j,G j b)\/w.heap.size<=b):=by
 have hmax:L.length+M.length<=140737488355328:=by
  have:(L.length+M.length)*1<=(L.length+M.length)*i.bytes:=Nat.mul_le_mul_left _ hby;omega
 have hfit:∀{old:Nat},old<L.length+M.length->Builtin.nextslicecap (L.length+M.length) old*i.bytes<=281474976710656:=fun h=>growslice_fits h hbytes
 have grow:∀(base:Option Addr)(old:Nat)(olds:List Value)(ov:Nat->Value)(Fs:Nat->Nat->Prop),v=.slice base L.length old->old<L.length+M.length ->
   (Builtin.firstCells i.size L.length (.slice base L.length old)).run P w.drew=.ok olds.toArray w.drew->olds.length=L.length*i.size->(∀j,j<olds.length->olds.getD j undef=ov j) ->
   (∀x∈L,x.cells.length=i.size)->(∀j x,cellAt L i.size j=some x->an w A (ov j) x (Fs j))->(∀i j c,i≠j->Fs i c->¬Fs j c)->(∀j c,Fs j c->F c) ->
   ∃v' w' F',(Builtin.append_ #[t,t] ty #[v,x]).run P w=.ok v' w'/\an w' A v' (.slice z (L++M)) F'/\w.heap.size<=w'.heap.size/\(∀b,b<w.heap.size->¬F b->w'.heap[b]?=w.heap[b]?) /\
    w'.os=w.os/\w'.tape=w.tape/\w'.output=w.output/\∀b,F' b->b<w'.heap.size/\(F b\/(∃j,G j b)\/w.heap.size<=b):=by
  rintro base old olds ov Fs rfl hlt hold hlen hov hLsz hown' hdis hFs;have hrun:=run_append_grow_src (P:=P) w t t ty e i zv ht hi hz base L.length old olds hold x M.length news hs hlt (by omega) (hfit hlt);have hge:=grownCap_ge w (L.length+M.length) old e;have hcm:grownCap w (L.length+M.length) old e<=maxLen:=grownCap_le_maxLen w _ old e (by simp only[maxLen];omega);have hnl:=hs.newsLen
  have hF':=Gx (w:=w) (A:=A) (z:=z) (L:=L) (M:=M) (sz:=i.size) (w':=w.drew.alloc (.cells ((olds++news).toArray++Builtin.zeroCells zv.cells (grownCap w (L.length+M.length) old e-(L.length+M.length))) e)) (b':=w.heap.size) (off':=0)
   (cap':=grownCap w (L.length+M.length) old e) (e:=e) (ov:=ov) (nv:=fun j=>news.getD j undef) Fs G (F':=fun c=>c=w.heap.size\/(∃j,Fs j c)\/∃j,G j c) hown' hdis hnew hGdis (fun i j c h=>hFG j c (hFs i c h)) (heap_alloc_new w.drew _)
   (by
     simp only[Array.size_append,List.size_toArray,List.length_append,size_zeroCells,hzs,hlen,hnl,<-Nat.add_mul,Nat.zero_add]
     refine⟨Nat.mul_le_mul_right _ (by omega),.inl (Nat.le_refl _)⟩)
   hge hcm hsz hzz hLsz hM (fun j hj=>by
    rw[Nat.add_mul] at hj;rw[Nat.zero_add];have h1:j<(olds++news).length:=by rw[List.length_append];omega
    have e1:((olds++news).toArray++Builtin.zeroCells zv.cells (grownCap w (L.length+M.length) old e-(L.length+M.length))).getD j undef=(olds++news).getD j undef:=by
     rw[Array.getD_eq_getD_getElem?,List.getD_eq_getElem?_getD,Array.getElem?_append_left (by simpa using h1),List.getElem?_toArray]
    rw[e1];by_cases h2:j<L.length*i.size
    ·rw[if_pos h2,<-hov j (by omega),List.getD_eq_getElem?_getD,List.getD_eq_getElem?_getD,List.getElem?_append_left (by omega)]
    ·rw[if_neg h2,List.getD_eq_getElem?_getD,List.getD_eq_getElem?_getD,List.getElem?_append_right (by omega),hlen])
   (fun c hc=>heap_alloc_old w.drew _ c (hA c hc).1)
   (fun c hc=>by
     have:c<w.heap.size:=by
      rcases hc with⟨j,hj⟩ | ⟨j,hj⟩
      ·exact hFlt c (hFs j c hj)
      ·exact hGlt j c hj
     exact⟨heap_alloc_old w.drew _ c this,by omega,.inr hc⟩) (.inl rfl)
  refine⟨_,_,_,hrun,hF',by simp,fun b hb _=>heap_alloc_old w.drew _ b hb,rfl,rfl,rfl,fun b hb=>?_⟩;rcases hb with rfl | ⟨j,hj⟩ | ⟨j,hj⟩
  ·exact⟨by simp,.inr (.inr (Nat.le_refl _))⟩
  ·have:=hFlt b (hFs j b hj)
   exact⟨by simp;omega,.inl (hFs j b hj)⟩
  ·have:=hGlt j b hj
   exact⟨by simp;omega,.inr (.inl ⟨j,hj⟩)⟩
 have nothing:∀(base:Option Addr)(n cap:Nat),v=.slice base n cap->n<=cap->M=[] ->
   (Builtin.append_ #[t,t] ty #[v,x]).run P w=.ok v w:=by
  rintro base n cap rfl hle rfl;have hn:news=[]:=List.eq_nil_of_length_eq_zero (by simpa using hs.newsLen);subst hn;exact run_append_nothing w t t ty e i ht hi base n cap hle x hs
 cases hown with
 | nil =>
  by_cases hM0:M=[]
  ·have hr:=nothing none 0 0 rfl (Nat.le_refl _) hM0
   exact⟨_,_,fun _=>False,hr,by rw[hM0];exact .nil,Nat.le_refl _,fun _ _ _=>rfl,rfl,rfl,rfl,fun _ h=>h.elim⟩
  ·refine grow none 0 [] (fun _=>undef) (fun _ _=>False) rfl (by cases M<;>simp_all) (run_firstCells_none w.drew i.size 0 0 0) (by simp) (by simp) (by simp) (fun j x hx=>by simp[cellAt] at hx) (fun _ _ _ _ h=>h.elim) (fun _ _ h=>h.elim)
 | @slice _ _ b off cap sz0 cs e0 fz _ Fs hheap hroom hcap hmaxc mb hzz0 hszs hr hFb hfs hdis =>
  have:sz0=i.size:=by rw[<-hzz0,hzz]
  subst this;have hblt:b<w.heap.size:=hFlt b hFb;have hnl:=hs.newsLen;have hLcap:L.length*i.size<=cap*i.size:=Nat.mul_le_mul_right _ hcap;by_cases hfits:L.length+M.length<=cap
  ·have hLM:(L.length+M.length)*i.size<=cap*i.size:=Nat.mul_le_mul_right _ hfits
   rw[Nat.add_mul] at hLM
   have hrun:=run_append_room_src (P:=P) w t t ty e i ht hi b off L.length cap x M.length news hs hfits
    (fun j hj=>by
      have:off+L.length*i.size+j<cs.size:=by omega
      simp[World.cell?,hheap,this]) (fun j hj=>by simp[World.frozen?,hheap];omega)
   rw[zR b e0 fz news _ cs w hheap] at hrun;have hset:off+L.length*i.size+news.length<=cs.size:=by omega
   have hF':=Gx (w:=w) (A:=A) (z:=z) (L:=L) (M:=M) (sz:=i.size) (w':=w.setRow b (eT cs (off+L.length*i.size) news)) (b':=b) (off':=off) (cap':=cap) (e:=e0) (ov:=fun j=>cs.getD (off+j) undef) (nv:=fun j=>news.getD j undef) Fs G
    (F':=fun c=>c=b\/(∃j,Fs j c)\/∃j,G j c)
    hr hdis hnew hGdis (fun i j c h=>hFG j c (hfs i c h).2) (setRow_heap w b cs _ e0 _ hheap) (by rw[p7];exact hroom) hfits hmaxc hsz hzz hszs hM
    (fun j hj=>by
      rw[Nat.add_mul] at hj;rw[p6 _ _ _ _ hset];by_cases h2:j<L.length*i.size
      ·rw[if_pos h2,if_neg (by omega)]
      ·rw[if_neg h2,if_pos (by omega)]
       congr 1
       omega)
    (fun c hc=>setRow_other w b c _ (by rintro rfl;exact(hA _ hc).2 hFb))
    (fun c hc=>by
      have:c≠b:=by
       rcases hc with⟨j,hj⟩ | ⟨j,hj⟩
       ·exact(hfs j c hj).1
       ·rintro rfl;exact hFG j c hFb hj
      exact⟨setRow_other w b c _ this,this,.inr hc⟩) (.inl rfl)
   refine⟨_,_,_,hrun,hF',by simp,fun c _ hc=>setRow_other w b c _ (by rintro rfl;exact hc hFb),rfl,rfl,rfl,fun c hc=>?_⟩;rcases hc with rfl | ⟨j,hj⟩ | ⟨j,hj⟩
   ·exact⟨by simpa using hblt,.inl hFb⟩
   ·exact⟨by simpa using hFlt c (hfs j c hj).2,.inl (hfs j c hj).2⟩
   ·exact⟨by simpa using hGlt j c hj,.inr (.inl ⟨j,hj⟩)⟩
  ·have hlen:((List.range (L.length*i.size)).map fun j=>cs.getD (off+j) undef).length=L.length*i.size:=by simp
   refine grow (some ⟨b,off,none⟩) cap ((List.range (L.length*i.size)).map fun j=>cs.getD (off+j) undef) (fun j=>cs.getD (off+j) undef) Fs rfl (by omega) ?_ hlen (fun j hj=>by simp at hj;simp[hj]) hszs hr hdis (fun j c h=>(hfs j c h).2);refine run_firstCells_some w.drew i.size L.length ⟨b,off,none⟩ L.length cap _ hlen fun j u hj=>?_
   rw[List.getElem?_map,Option.map_eq_some_iff] at hj;obtain⟨k,hk,rfl⟩:=hj;obtain⟨hk1,hk2⟩:=List.getElem?_eq_some_iff.1 hk;simp at hk1 hk2;subst hk2;have h3:off+j<cs.size:=by omega
   have hd:w.drew.heap[b]?=some (.cells cs e0 fz):=hheap;simp[Addr.add_lit,World.cell?,hd,h3]
end
end Go.D3
namespace Go.D3
open Go
section
variable{P:Program}{cx:Ctx}{vl:Nat->Value}{fp:Nat->Nat->Prop}{G:Nat->Prop}{w:World}{A:Nat->Prop}
theorem Hp.xY{ct:Nat->D}(h:Hp cx ct vl fp G w){w':World}(hsz:w.heap.size<=w'.heap.size)(hw:∀b,b<w.heap.size->¬G b->w'.heap[b]?=w.heap[b]?)
  (hos:w'.os=w.os) (htape:w'.tape=w.tape) (hout:w'.output=w.output):Hp cx ct vl fp (fun b=>G b\/(w.heap.size<=b/\b<w'.heap.size)) w' where
 ok k:=by
  refine(h.ok k).mono (Q:=fun _=>True) (fun b hb=>⟨⟨by have:=hb.1.1;omega,hb.1.2⟩,fun hg=>hg.elim hb.2.1 (fun hh=>by have:=hb.1.1;omega),hb.2.2⟩) (fun b hb=>hw b hb.1.1 hb.2.1) (fun b hb=>hw b (h.lt k b hb).1 (h.cK k b hb)) (fun _ h=>h) (bq (fun _=>trivial) _) fun v d _ hr=>?_
  refine hr.cz (bq (fun d=>?_) _);cases d<;>try trivial
  case sub k p=>exact fun hp=>⟨hp,(gq (h.ok k) hp.1 fun b hb=>hw b (h.lt k b hb).1 (h.cK k b hb)).1⟩
  case aw k p=>exact fun hp=>⟨hp,(gq (h.ok k) hp fun b hb=>hw b (h.lt k b hb).1 (h.cK k b hb)).2⟩
 b8:=h.b8
 cK k b hb hg:=hg.elim (h.cK k b hb) fun hh=>by have:=(h.lt k b hb).1;omega
 emp:=h.emp
 lt k b hb:=⟨by have:=(h.lt k b hb).1;omega,(h.lt k b hb).2⟩
 c7 b hb:=hb.elim (fun hg=>⟨by have:=(h.c7 b hg).1;omega,(h.c7 b hg).2⟩) fun hh=>⟨hh.2,.inr (by have:=h.size;omega)⟩
 size:=Nat.le_trans h.size hsz
 same b hb hF:=by
  rw[hw b (by have:=h.size;omega) fun hg=>((h.c7 b hg).2).elim hF fun hh=>by omega];exact h.same b hb hF
 os:=hos.trans h.os
 tape:=htape.trans h.tape
 output:=hout.trans h.output
theorem Ts{st:St}(h:Hp cx st.cont vl fp G w)(hwf:st.wf){w':World}(hsz:w.heap.size<=w'.heap.size)(hw:∀b,b<w.heap.size->¬G b->w'.heap[b]?=w.heap[b]?)
  (hos:w'.os=w.os) (htape:w'.tape=w.tape) (hout:w'.output=w.output) {v:Value} {x:D} {F:Nat->Prop} (hF:∀b,F b->b<w'.heap.size/\(G b\/w.heap.size<=b)) (ho:an w' (aq cx fp G w) v x F) :
  ∃fp' G',Hp cx (st.push (.o x)).cont (ay vl (1000+st.n) v) fp' G' w'/\(st.push (.o x)).wf/\(st.push (.o x)).n=st.n+1/\∀i,i<1000->st.cont i=.dead->(st.push (.o x)).cont i=.dead:=by
 have hd:st.cont (1000+st.n)=.dead:=St.cZ (by simp only[St.in,not_or,not_and];omega);have h1:=h.xY hsz hw hos htape hout;rw[St.dz hwf];refine⟨_,fun _=>False,h1.put (by rw[hd];rfl) (F:=F) (c:=.o x) (show an w' _ v x F from ho.mono (fun b hb=>?_) (fun _ _=>rfl) (fun _ _=>rfl) fun _ h=>h) (fun b hb=>?_) (fun _ h=>h.elim) (fun _ _ h=>h) (fun h=>by cases h),St.fo hwf _,rfl,fun i hi hd=>by rw[aG _ _ (by omega)];exact hd⟩
 ·exact⟨⟨by have:=hb.1.1;omega,hb.1.2⟩,fun hg=>hg.elim hb.2.1 fun hh=>by have:=hb.1.1;omega,hb.2.2⟩
 ·obtain⟨q1,q2⟩:=hF b hb
  exact q2.imp id fun hh=>⟨hh,q1⟩
theorem LL{s:D}{K:D->St->Prop}{st:St}{v:Value}(hK:gR s K st)(h:Hp cx st.cont vl fp G w)(hw:st.wf)(hv:Pl w A (aj w st.cont vl) v s) :
  ∃y st' fp' G' F,K y st'/\Tk cx w vl st fp G st' fp' G' F/\an w (aq cx fp' G' w) v y F:=by
 unfold gR at hK;split at hK
 ·obtain⟨x,st',fp',G',F,h1,h2,h3,-⟩:=vy hK h hw (dW hv)
  exact⟨x,st',fp',G',F,h1,h2,h3⟩
 ·have:=b6 hv (by simp) (by simp) (by simp) (by simp) (by simp)
  cases this;exact⟨_,st,fp,G,_,hK,.refl h hw,.nil⟩
 ·exact hK.elim
theorem C9{y:D}{v:Value}{F:Nat->Prop}(h:an w A v y F){m:Nat}(hl:y.ck=some m):∃z L,y=.slice z L/\m=L.length:=by
 cases h<;>simp only[D.ck,reduceCtorEq,Option.some.injEq] at hl
 ·exact⟨_,_,rfl,by simpa using hl.symm⟩
 ·exact⟨_,_,rfl,hl.symm⟩
theorem S0{v:Value}{x:D}{F:Nat->Prop}(h:an w A v x F)(h1:x.isAgg=false->v.oneCell'=true) :
  ∃Gs:Nat->Nat->Prop,(∀(off:Nat)(d:D),x.cells[off]?=some d->an w A (v.cells.getD off undef) d (Gs off))/\(∀off c,Gs off c->F c)/\(∀i j c,i≠j->Gs i c->¬Gs j c):=by
 by_cases ha:x.isAgg=true
 ·cases h with
  | agg Fs hs hr hfs hdis=>exact⟨Fs,fun off d hd=>hr off d hd,hfs,hdis⟩
  | _=>cases ha
 ·have ha':x.isAgg=false:=by simpa using ha
  have hone:=h1 ha';have hvc:v.cells=#[v]:=by cases v<;>first | rfl | cases hone
  refine⟨fun j c=>j=0/\F c,fun off d hd=>?_,fun off c hc=>hc.2,fun i j c hij hi hj=>hij (hi.1.trans hj.1.symm)⟩;rw[D.cells_one ha'] at hd;cases off with
  | zero =>
   simp at hd;subst hd;rw[hvc];exact h.mono (fun _ h=>h) (fun _ _=>rfl) (fun _ _=>rfl) fun c hc=>⟨rfl,hc⟩
  | succ off=>simp at hd
theorem Wx{t e:TypeId}(ht:P.underlying t=some (.slice e)){v:Value}{z:D}{M:List D}(h:Rd w A v (.slice z M))(hc:∀x∈M,x.cP=true)(A':Nat->Prop) :
  ∃news,Src P 1 t v M.length news w/\∀j d,cellAt M 1 j=some d->an w A' (news.getD j undef) d (fun _=>False):=by
 have hcells:∀{x:D},x.cP=true->x.cells=[x]:=fun {x} hx=>by cases x<;>first | rfl | cases hx
 have hown:∀{v:Value}{x:D},Rd w A v x->x.cP=true->an w A' v x (fun _=>False)/\v.oneCell'=true:=by
  intro v x h hx;cases h<;>first | cases hx | skip
  ·exact⟨.int ‹_›,rfl⟩
  ·exact⟨.bool,rfl⟩
  ·exact⟨.str ‹_›,rfl⟩
 cases h with
 | nil=>exact⟨[],Src.ofNil w ht 0,fun j d hd=>by simp[cellAt] at hd⟩
 | @empty _ p cap hm=>exact⟨[],Src.ofSlice w ht p 0 cap [] (by simp) (fun j u hj=>by simp at hj) (fun u hu=>by simp at hu),fun j d hd=>by simp[cellAt] at hd⟩
 | @slice _ _ b off cap sz hA hcap hm hz hzz hsz vs hcells' hr =>
  have hcell:∀j (hj:j<M.length),cellAt M sz j=some M[j]/\M[j].cP=true:=fun j hj=>by
   have h2:=hc M[j] (List.getElem_mem hj);have h1:=hcells h2
   have hs1:sz=1:=by
    have:=hsz M[j] (List.getElem_mem hj);rw[h1] at this;exact this.symm
   subst hs1;refine⟨?_,h2⟩;unfold cellAt;rw[Nat.div_one,Nat.mod_one,List.getElem?_eq_getElem hj];simp[h1]
  refine⟨(List.range M.length).map vs,Src.ofSlice w ht ⟨b,off,none⟩ M.length cap _ (by simp) (fun j u hj=>?_) (fun u hu=>?_),fun j d hd=>?_⟩
  ·rw[List.getElem?_map,Option.map_eq_some_iff] at hj
   obtain⟨k,hk,rfl⟩:=hj;obtain⟨hk1,hk2⟩:=List.getElem?_eq_some_iff.1 hk;simp at hk1 hk2;subst hk2;rw[Addr.add_lit];exact hcells' j _ (hcell j hk1).1
  ·obtain⟨j,hj,rfl⟩:=List.mem_map.1 hu
   simp at hj;exact(hown (hr j _ (hcell j hj).1) (hcell j hj).2).2
  ·have hj:=kR (by omega) hd
   rw[Nat.mul_one] at hj
   have e1:cellAt M 1 j=some M[j]:=by
    unfold cellAt;rw[Nat.div_one,Nat.mod_one,List.getElem?_eq_getElem hj];simp[hcells (hc M[j] (List.getElem_mem hj))]
   rw[e1] at hd;injection hd with hd
   subst hd;have e2:((List.range M.length).map vs).getD j undef=vs j:=by simp[hj]
   rw[e2];exact(hown (hr j _ (hcell j hj).1) (hcell j hj).2).1
theorem Gb{sz:Nat}:∀{l:List D},rp sz l->∀e∈l,e.cells.length=sz
 | [],_,e,he=>by cases he
 | x::r,h,e,he=>by
  rcases List.mem_cons.1 he with rfl | he
  ·exact h.1
  ·exact Gb h.2 e he
mutual
theorem vW:∀(d:D){K:D->St->Prop}{st:St},aD d K st->∃x st',K x st'
 | .int _ _,K,st,h=>by simp only[aD] at h;exact⟨_,_,h⟩
 | .bool _,K,st,h=>by simp only[aD] at h;exact⟨_,_,h⟩
 | .str _,K,st,h=>by simp only[aD] at h;exact⟨_,_,h⟩
 | .bp,K,st,h=>by simp only[aD] at h;exact⟨_,_,h⟩
 | .fn _ [],K,st,h=>by simp only[aD] at h;exact⟨_,_,h⟩
 | .slice _ _,K,st,h=>by simp only[aD] at h;exact⟨_,_,h⟩
 | .ptr _,K,st,h=>by simp only[aD] at h;exact⟨_,_,h⟩
 | .aB _,K,st,h=>by simp only[aD] at h;exact⟨_,_,h⟩
 | .bO,K,st,h=>by simp only[aD] at h;exact⟨_,_,h⟩
 | .bj,K,st,h=>by simp only[aD] at h;exact⟨_,_,h⟩
 | .bD _ _,K,st,h=>by simp only[aD] at h;exact⟨_,_,h⟩
 | .mp _ _,K,st,h=>by simp only[aD] at h
 | .bR _ _,K,st,h=>by simp only[aD] at h
 | .eF _,K,st,h=>by simp only[aD] at h
 | .sub k [],K,st,h=>by
  simp only[aD,eI] at h;cases ho:(st.cont k).ja with
  | none=>rw[ho] at h;exact h.elim
  | some x=>rw[ho] at h;exact⟨_,_,h⟩
 | .sub k (s::p),K,st,h=>by simp only[aD,eI] at h;exact⟨_,_,h⟩
 | .agg l,K,st,h=>by
  simp only[aD] at h;obtain⟨l',st',h'⟩:=CE l h;exact⟨_,_,h'⟩
 | .fn _ (_::_),K,st,h=>by simp only[aD] at h;exact⟨_,_,h.2⟩
 | .au _,K,st,h=>by simp only[aD] at h
 | .vw _,K,st,h=>by simp only[aD] at h
 | .o _,K,st,h=>by simp only[aD] at h
 | .box _,K,st,h=>by simp only[aD] at h
 | .row _ _,K,st,h=>by simp only[aD] at h
 | .aw _ _,K,st,h=>by simp only[aD] at h
 | .pre _ _ _,K,st,h=>by simp only[aD] at h
 | .when _ _,K,st,h=>by simp only[aD] at h
 | .dead,K,st,h=>by simp only[aD] at h
theorem CE:∀(l:List D){K:List D->St->Prop}{st:St},cV l K st->∃x st',K x st'
 | [],K,st,h=>by simp only[cV] at h;exact⟨_,_,h⟩
 | x::r,K,st,h=>by
  simp only[cV] at h;obtain⟨x',st',h'⟩:=vW x h.2;obtain⟨l',st'',h''⟩:=CE r h';exact⟨_,_,h''⟩
end
theorem vZ:∀(l:List D){K:List D->St->Prop}{st:St},cV l K st->∀e∈l,∃K' st',aD e K' st'
 | [],K,st,_,e,he=>by cases he
 | x::r,K,st,h,e,he=>by
  simp only[cV] at h;rcases List.mem_cons.1 he with rfl | he
  ·exact⟨_,_,h.2⟩
  ·obtain⟨x',st',h'⟩:=vW x h.2
   exact vZ r h' e he
theorem Md{l:List D}{sz j:Nat}{c:D}(h:∀e∈l,∃K' st',aD e K' st')(hc:cellAt l sz j=some c):∃K' st',aD c K' st':=by
 unfold cellAt at hc;cases hq:l[j / sz]? with
 | none=>simp[hq] at hc
 | some e =>
  rw[hq,Option.bind_some] at hc;obtain⟨K',st',hK⟩:=h e (List.mem_of_getElem? hq);have hm:=List.mem_of_getElem? hc;cases e<;>simp only[D.cells,List.mem_singleton] at hm<;>first | (subst hm;exact⟨_,_,hK⟩) | skip
  rename_i l0;simp only[aD] at hK;exact vZ l0 hK c hm
theorem SC{ct:Nat->D}{v:Value}{c:D}(h:Pl w A (aj w ct vl) v c)(hp:c.pc=true)(hl:∃K' st',aD c K' st'):v.oneCell'=true:=by
 obtain⟨K',st',hK⟩:=hl;cases c<;>try(cases hp;done)
 case int=>obtain⟨rfl,_⟩:=ey h;rfl
 case bool=>have:=pl_bool h;subst this;rfl
 case str=>obtain⟨rfl,_⟩:=gG h;rfl
 case slice=>have:=oq h;cases this<;>rfl
 case ptr=>obtain⟨_,_,rfl,_⟩:=pQ h;rfl
 case fn=>obtain⟨_,rfl,_⟩:=mJ h;rfl
 case sub=>obtain⟨_,_,⟨_,_,_,rfl⟩ | ⟨_,rfl⟩⟩:=dW h<;>rfl
 case aw=>simp only[aD] at hK
 case dead=>simp only[aD] at hK
 case bp=>have:=b6 h (by simp) (by simp) (by simp) (by simp) (by simp);cases this;rfl
 case aB=>have:=b6 h (by simp) (by simp) (by simp) (by simp) (by simp);cases this;rfl
 case mp=>simp only[aD] at hK
 case bR=>simp only[aD] at hK
 case eF=>simp only[aD] at hK
 case bO=>have:=b6 h (by simp) (by simp) (by simp) (by simp) (by simp);cases this;rfl
 case bj=>have:=b6 h (by simp) (by simp) (by simp) (by simp) (by simp);cases this;rfl
 case bD=>have:=b6 h (by simp) (by simp) (by simp) (by simp) (by simp);cases this;rfl
theorem wq{t ty e:TypeId}{i:TypeInfo}{zv:Value}(ht:P.underlying t=some (.slice e))(hi:P.info? e=some i)(hz:i.zero=some zv)(hzs:zv.cells.size=i.size)(hsz : 0<i.size)(hby : 0<i.bytes)
  {st:St} {s:D} {vs x:Value} {M:List D} {K:St->Prop} (hK:gR s (fun y st=>y.gz=i.size/\cX y.ck fun m=>(m+M.length)*i.bytes<=140737488355328/\K (st.push (.o (y.dQ M)))) st)
  (h:Hp cx st.cont vl fp G w) (hw:st.wf) (hv:Pl w A (aj w st.cont vl) vs s) (hM:∀x∈M,x.cells.length=i.size) {news:List Value} (hs:Src P i.size t x M.length news w) (Gs:Nat->Nat->Prop)
  (hnew:∀j d,cellAt M i.size j=some d->an w (aq cx fp G w) (news.getD j undef) d (Gs j)) (hGdis:∀i j c,i≠j->Gs i c->¬Gs j c) (hGG:∀j c,Gs j c->G c) :
  ∃v' w',(Builtin.append_ #[t,t] ty #[vs,x]).run P w=.ok v' w'/\∃st' fp' G',K st'/\Hp cx st'.cont (ay vl (1000+st.n) v') fp' G' w'/\st'.wf/\st'.n=st.n+1/\∀i,i<1000->st.cont i=.dead->st'.cont i=.dead:=by
 obtain⟨y,st1,fp1,G1,F,⟨h1,h2⟩,h3,h4⟩:=LL hK h hw hv;cases hl:y.ck with
 | none=>rw[hl] at h2;exact h2.elim
 | some m =>
 rw[hl] at h2;obtain⟨hb,hKK⟩:=h2;obtain⟨z,L,rfl,rfl⟩:=C9 h4 hl
 obtain⟨v',w',F',r1,r2,r3,r4,r5,r6,r7,r8⟩:=CX (ty:=ty) ht hi hz hzs hsz hby h4 h1 hM hs Gs (fun c hc=>⟨hc.1.1,fun hf=>hc.2.1 (h3.hF c hf).1⟩) (fun c hc=>(h3.hp.c7 c (h3.hF c hc).1).1) (fun j c hc=>(h.c7 c (hGG j c hc)).1)
  (fun j d hd=>(hnew j d hd).mono h3.aO (fun _ _=>rfl) (fun _ _=>rfl) fun _ h=>h) hGdis (fun j c hf hg=>(h3.hF c hf).2 (hGG j c hg)) hb
 obtain⟨fp2,G2,k1,k2,k3,k4⟩:=Ts h3.hp h3.wf r3 (fun b hb hg=>r4 b hb fun hf=>hg (h3.hF b hf).1) r5 r6 r7 (fun b hb=>⟨(r8 b hb).1,(r8 b hb).2.elim (fun hf=>.inl (h3.hF b hf).1) fun hh=>hh.elim (fun⟨j,hj⟩=>.inl (h3.hG b (hGG j b hj))) .inr⟩) r2;rw[h3.n] at k1 k3;exact⟨v',w',r1,_,_,_,hKK,k1,k2,k3,fun i hi hd=>k4 i hi (h3.dd i hd)⟩
theorem Gg:∀{l:List D},oe l=true->∀x∈l,x.gF=true
 | [],_,x,hx=>by cases hx
 | y::r,h,x,hx=>by
  simp only[oe,Bool.and_eq_true] at h;rcases List.mem_cons.1 hx with rfl | hx
  ·exact h.1
  ·exact Gg h.2 x hx
theorem Ly{sz bytes:Nat}{s x:D}{K:St->Prop}{st:St}(hK:nA sz bytes s x K st)(h:Hp cx st.cont vl fp G w)(hw:st.wf){vs vx:Value}(hs:Pl w (aq cx fp G w) (aj w st.cont vl) vs s)(hx:Pl w (aq cx fp G w) (aj w st.cont vl) vx x)
  {t ty e:TypeId} {i:TypeInfo} {zv:Value} (ht:P.underlying t=some (.slice e)) (hi:P.info? e=some i) (hz:i.zero=some zv) (hzs:zv.cells.size=i.size) (hisz:i.size=sz) (hsz : 0<sz) (hiby:i.bytes=bytes) (hby : 0<bytes) :
  ∃v' w',(Builtin.append_ #[t,t] ty #[vs,vx]).run P w=.ok v' w'/\∃st' fp' G',K st'/\Hp cx st'.cont (ay vl (1000+st.n) v') fp' G' w'/\st'.wf/\st'.n=st.n+1/\∀i,i<1000->st.cont i=.dead->st'.cont i=.dead:=by
 subst hisz hiby;unfold nA at hK;cases hmv:oc st x with
 | some kp =>
  rw[hmv] at hK;obtain⟨hsafe,hK⟩:=hK;obtain⟨k,p⟩:=kp
  have hxk:x=.sub k p:=by
   unfold oc at hmv;split at hmv
   ·split at hmv<;>simp only[reduceCtorEq,Option.some.injEq,Prod.mk.injEq] at hmv
    rw[hmv.1,hmv.2]
   ·split at hmv<;>simp only[reduceCtorEq,Option.some.injEq,Prod.mk.injEq] at hmv
    rw[hmv.1,hmv.2]
   ·cases hmv
  subst hxk;obtain⟨y,st1,fp1,G1,F,⟨he,hK1⟩,htk,hown,hkeep⟩:=vy hK h hw (dW hx);cases hels:y.il with
  | none=>rw[hels] at hK1;exact hK1.elim
  | some M =>
  rw[hels] at hK1;obtain⟨hsl,hK2⟩:=hK1
  have hsv:Pl w (aq cx fp G w) (aj w st1.cont vl) vs s:=hs.cz (fun _ h=>h) (fun _ _=>rfl) (by
   have h1:=y8 (T:=kj) (r:=s) (D.sub k p) (show(D.sub k p).refs _ from by
    have:=zG (show mS [s] (.sub k p) from hsafe);simp only[D.refs,bK] at this
    exact this.1)
   exact dq (fun q hq=>hkeep q hq) h1)
  have hmvE:∀e∈M,e.cells.length=i.size/\oe e.cells=true:=fun e he=>by have:=hsl e he;simp only[D.uh,Bool.and_eq_true,decide_eq_true_eq] at this;exact this
  have hone:∀{v:Value}{e:D}{B:Nat->Prop}{F:Nat->Prop},an w B v e F->e.gF=true->v.oneCell'=true:=fun ho he=>by cases ho<;>first | rfl | cases he
  have hM1:∀e∈M,e.cells.length=i.size:=fun e he=>(hmvE e he).1
  obtain⟨news,Fs,n1,n2,n3,n4⟩:∃(news:List Value)(Fs:Nat->Nat->Prop),Src P i.size t vx M.length news w/\(∀j d,cellAt M i.size j=some d->an w (aq cx fp1 G1 w) (news.getD j undef) d (Fs j))/\(∀i j c,i≠j->Fs i c->¬Fs j c)/\∀j c,Fs j c->F c:=by
   cases hown<;>simp only[D.il,reduceCtorEq,Option.some.injEq] at hels
   ·subst hels
    exact⟨[],fun _ _=>False,Src.ofNil w ht 0,fun j d hd=>by simp[cellAt] at hd,fun _ _ _ _ h=>h.elim,fun _ _ h=>h.elim⟩
   ·rename_i z L b off cap sz0 cs e0 fz Fs hheap hroom hcap hmaxc mb hzz0 hszs hr hdis hFb hfs
    subst hels;have hsz0:sz0=i.size:=by rw[<-hzz0];exact he
    subst hsz0;have hLcap:L.length*i.size<=cap*i.size:=Nat.mul_le_mul_right _ hcap;refine⟨(List.range (L.length*i.size)).map fun j=>cs.getD (off+j) undef,Fs,Src.ofSlice w ht ⟨b,off,none⟩ L.length cap _ (by simp) (fun j u hj=>?_) (fun u hu=>?_),fun j d hd=>?_,hdis,fun j c hc=>(hfs j c hc).2⟩
    ·rw[List.getElem?_map,Option.map_eq_some_iff] at hj
     obtain⟨q,hq,rfl⟩:=hj;obtain⟨hq1,hq2⟩:=List.getElem?_eq_some_iff.1 hq;simp at hq1 hq2;subst hq2;have h3:off+j<cs.size:=by omega
     simp[Addr.add_lit,World.cell?,hheap,h3]
    ·obtain⟨j,hj,rfl⟩:=List.mem_map.1 hu
     simp at hj;obtain⟨d,hd⟩:=Dv mb hszs hj;obtain⟨e,he,hde⟩:=L8 hd;exact hone (hr j d hd) (Gg (hmvE e he).2 d hde)
    ·have hj:=kR mb hd
     have e2:((List.range (L.length*i.size)).map fun j=>cs.getD (off+j) undef).getD j undef=cs.getD (off+j) undef:=by simp[hj]
     rw[e2];exact hr j d hd
  refine wq (ty:=ty) ht hi hz hzs hsz hby hK2 htk.hp htk.wf hsv hM1 n1 Fs n2 n3 (fun j c hc=>(htk.hF c (n4 j c hc)).1) |>.imp fun v' hh=>hh.imp fun w' hh=>⟨hh.1,by
   obtain⟨st',fp',G',a1,a2,a3,a4,a5⟩:=hh.2;rw[htk.n] at a2 a4
   exact⟨st',fp',G',a1,a2,a3,a4,fun i hi hd=>a5 i hi (htk.dd i hd)⟩⟩
 | none =>
 rw[hmv] at hK;cases ha:sJ st x with
 | none=>rw[ha] at hK;exact hK.elim
 | some src =>
 rw[ha] at hK;unfold sJ at ha;cases hrow:isRow st x with
 | some l =>
  rw[hrow] at ha;simp only[Option.some.injEq] at ha;subst ha;obtain⟨hl,hsafe,hK⟩:=hK;unfold isRow at hrow;split at hrow<;>try(cases hrow;done)
  rename_i k
  have hcr:∃z0,st.cont k=.row z0 l:=by
   cases hc:st.cont k<;>rw[hc] at hrow<;>simp only[D.row?,reduceCtorEq,Option.some.injEq] at hrow;exact⟨_,by rw[hrow]⟩
  obtain⟨z0,hc⟩:=hcr;obtain⟨-,hvx,-⟩:=dW hx;simp only[aN,Option.some.injEq] at hvx;have hok:=h.ok k;rw[hc] at hok;obtain⟨b,eH,cs,e0,q1,q2,q3,q4,q5,q6,q7,q8,q9⟩:=hok;have hlsz:=Gb hl
  have hcs:cs.size=l.length*i.size:=by
   cases l with
   | nil=>simpa using q3
   | cons a r =>
    have e1:=q7 a (by simp);have e2:=hlsz a (by simp);rw[q3];congr 1;omega
  have hcell:∀j c,cellAt l i.size j=some c->Pl w (aq cx fp G w) (aj w st.cont vl) (cs.getD j undef) c/\c.pc=true:=by
   intro j c hj;cases l with
   | nil=>simp[cellAt] at hj
   | cons a r =>
    have e1:=q7 a (by simp);have e2:=hlsz a (by simp);have:eH=i.size:=by omega
    subst this;exact q8 j c hj
  let ev:Nat->Value:=fun q=>if(l.getD q .dead).isAgg=true then .agg (cs.extract (q*i.size) (q*i.size+i.size)) else cs.getD (q*i.size) undef
  have hev:∀(q off:Nat),q<l.length->off<i.size->(ev q).oneCell'=true\/(l.getD q .dead).isAgg=true->(ev q).cells.getD off undef=cs.getD (q*i.size+off) undef:=by
   intro q off hq ho hone
   have hb1:q*i.size+off<cs.size:=by
    have:(q+1)*i.size<=l.length*i.size:=Nat.mul_le_mul_right _ hq;rw[Nat.add_mul] at this;omega
   by_cases hagg:(l.getD q .dead).isAgg=true
   ·simp only[ev,hagg,if_true,Value.cells]
    simp only[Array.getD_eq_getD_getElem?,Array.getElem?_extract];rw[if_pos (by omega)]
   ·have hone:=hone.resolve_right hagg
    have hag':(l.getD q .dead).isAgg=false:=by simpa using hagg
    have hlen:=hlsz (l.getD q .dead) (by rw[List.getD_eq_getElem?_getD,List.getElem?_eq_getElem hq];exact List.getElem_mem hq);rw[D.cells_one hag'] at hlen;simp only[List.length_cons,List.length_nil] at hlen;have ho0:off=0:=by omega
    subst ho0;have hvc:(ev q).cells=#[ev q]:=by revert hone;generalize ev q=u;intro hone;cases u<;>first | rfl | cases hone
    have e2:ev q=cs.getD (q*i.size) undef:=by simp only[ev,hag',Bool.false_eq_true,if_false]
    rw[hvc,e2];rfl
  have hget:∀(q:Nat)(x:D),l[q]?=some x->q<l.length/\l.getD q .dead=x:=fun q x hq=>⟨(List.getElem?_eq_some_iff.1 hq).1,by rw[List.getD_eq_getElem?_getD,hq];rfl⟩
  have hat:∀(q off:Nat)(x:D),l[q]?=some x->off<i.size->cellAt l i.size (q*i.size+off)=x.cells[off]?:=by
   intro q off x hq ho;unfold cellAt;have e1:(q*i.size+off) / i.size=q:=by rw[Nat.mul_comm,Nat.mul_add_div hsz,Nat.div_eq_of_lt ho];rfl
   have e2:(q*i.size+off) % i.size=off:=by rw[Nat.mul_comm,Nat.mul_add_mod,Nat.mod_eq_of_lt ho]
   rw[e1,e2,hq];rfl
  have hlive:=vZ l hK
  have hels:∀(q:Nat)(x:D),l[q]?=some x->Pl w (aq cx fp G w) (aj w st.cont vl) ((((List.range l.length).map ev).toArray).getD q undef) x:=by
   intro q x hq;obtain⟨hq1,hq2⟩:=hget q x hq;have e1:(((List.range l.length).map ev).toArray).getD q undef=ev q:=by simp[hq1]
   rw[e1];have hxl:=hlsz x (List.mem_of_getElem? hq);have hb1:(q+1)*i.size<=l.length*i.size:=Nat.mul_le_mul_right _ hq1;rw[Nat.add_mul] at hb1;by_cases hagg:x.isAgg=true
   ·have e2:ev q=.agg (cs.extract (q*i.size) (q*i.size+i.size)):=by simp only[ev,hq2,hagg,if_true]
    rw[e2];cases x<;>simp only[D.isAgg,Bool.false_eq_true] at hagg;rename_i l0;have hl0:l0.length=i.size:=hxl;refine .agg (by simp;omega) fun off c hoc=>?_
    have ho:=(List.getElem?_eq_some_iff.1 hoc).1;have:=(hcell (q*i.size+off) c (by rw[hat q off _ hq (by omega)];exact hoc)).1;simp only[Array.getD_eq_getD_getElem?,Array.getElem?_extract] at this|-
    rw[if_pos (by omega)];exact this
   ·have hag':x.isAgg=false:=by simpa using hagg
    have e2:ev q=cs.getD (q*i.size) undef:=by simp only[ev,hq2,hag',Bool.false_eq_true,if_false]
    rw[e2];have:=(hcell (q*i.size+0) x (by rw[hat q 0 _ hq hsz,D.cells_one hag'];rfl)).1;exact this
  obtain⟨M,st1,fp1,G1,Fs,k1,k2,k3,k4,k5,k6⟩:=je l hK h hw (fun _ h=>h) hels
  have hs1:Pl w (aq cx fp G w) (aj w st1.cont vl) vs s:=hs.cz (fun _ h=>h) (fun _ _=>rfl) (by
   have h1:s.refs fun q=>bK (fun t=>kj t q) l:=by
    have:=y8 (T:=kj) (r:=s) (.agg l) (dq (fun d hd=>by
     have:=zG hd;simp only[D.refs,bK] at this
     exact this.1) (show(D.agg l).refs _ from hsafe))
    exact this
   exact dq (fun q hq=>k6 q hq) h1)
  have hMget:∀(q:Nat)(y:D),M[q]?=some y->q<l.length/\y.cells.length=i.size/\(y.isAgg=false->(ev q).oneCell'=true)/\an w (aq cx fp1 G1 w) (ev q) y (Fs q)/\(y.isAgg=true->(l.getD q .dead).isAgg=true):=by
   intro q y hq;obtain⟨r1,r2,d,r3,r4,r5⟩:=k4 q y hq;obtain⟨hq1,hq2⟩:=hget q d r3;have e1:(((List.range l.length).map ev).toArray).getD q undef=ev q:=by simp[hq1]
   rw[e1] at r1 r2;exact⟨hq1,by rw[r5];exact hlsz d (List.mem_of_getElem? r3),r2,r1,fun hy=>by rw[hq2,<-r4];exact hy⟩
  have hskol:∀q,∃Gs:Nat->Nat->Prop,∀y,M[q]?=some y->(∀(off:Nat)(d:D),y.cells[off]?=some d->an w (aq cx fp1 G1 w) ((ev q).cells.getD off undef) d (Gs off))/\(∀off c,Gs off c->Fs q c)/\(∀i j c,i≠j->Gs i c->¬Gs j c):=by
   intro q;cases hq:M[q]? with
   | none=>exact⟨fun _ _=>False,fun y hy=>by cases hy⟩
   | some y =>
    obtain⟨_,_,r3,r4,_⟩:=hMget q y hq;obtain⟨Gs,g1,g2,g3⟩:=S0 r4 r3;exact⟨Gs,fun y' hy'=>by injection hy' with hy';subst hy';exact⟨g1,g2,g3⟩⟩
  obtain⟨Gq,hGq⟩:=Classical.skolem.1 hskol
  have hsrc:Src P i.size t vx M.length cs.toList w:=by
   rw[<-hvx,q1,k3];refine Src.ofSlice w ht ⟨b,0,none⟩ l.length l.length cs.toList (by rw[Array.length_toList,hcs]) (fun j u hj=>?_) (fun u hu=>?_)
   ·rw[Addr.add_lit]
    simp only[Array.getElem?_toList] at hj;simp[World.cell?,q2,hj]
   ·obtain⟨j,hj,rfl⟩:=List.getElem_of_mem hu
    have hj':j<cs.size:=by simpa using hj
    obtain⟨c,hc'⟩:=Dv hsz hlsz (show j<l.length*i.size by omega);obtain⟨p1,p2⟩:=hcell j c hc';have e1:cs.toList[j]=cs.getD j undef:=by simp[hj']
    rw[e1];exact SC p1 p2 (Md hlive hc')
  refine wq (ty:=ty) ht hi hz hzs hsz hby k1 k2.hp k2.wf hs1 (fun x hx=>?_) hsrc (fun j c=>j / i.size<M.length/\Gq (j / i.size) (j % i.size) c) (fun j d hj=>?_) (fun j j' c hne hj hj'=>?_) (fun j c hj=>?_) |>.imp fun v' hh=>hh.imp fun w' hh=>⟨hh.1,by
   obtain⟨st',fp',G',a1,a2,a3,a4,a5⟩:=hh.2;rw[k2.n] at a2 a4
   exact⟨st',fp',G',a1,a2,a3,a4,fun i hi hd=>a5 i hi (k2.dd i hd)⟩⟩
  ·obtain⟨q,hq,rfl⟩:=List.getElem_of_mem hx
   exact(hMget q _ (List.getElem?_eq_getElem hq)).2.1
  ·unfold cellAt at hj
   cases hq:M[j / i.size]? with
   | none=>simp[hq] at hj
   | some y =>
    rw[hq,Option.bind_some] at hj;obtain⟨r1,r2,r3,r4,r5⟩:=hMget _ _ hq;obtain⟨g1,g2,g3⟩:=hGq _ y hq;have hmod:=Nat.mod_lt j hsz;have hdm:j / i.size*i.size+j % i.size=j:=by rw[Nat.mul_comm];exact Nat.div_add_mod j _
    have:=g1 _ _ hj
    rw[hev _ _ r1 hmod (by
     by_cases hy:y.isAgg=true
     ·exact .inr (r5 hy)
     ·exact .inl (r3 (by simpa using hy))),hdm] at this
    have e1:cs.toList.getD j undef=cs.getD j undef:=by simp
    rw[e1];exact this.mono (fun _ h=>h) (fun _ _=>rfl) (fun _ _=>rfl) fun c hc=>⟨(List.getElem?_eq_some_iff.1 hq).1,hc⟩
  ·obtain⟨a1,a2⟩:=hj
   obtain⟨b1,b2⟩:=hj';obtain⟨_,g2,g3⟩:=hGq _ _ (List.getElem?_eq_getElem a1);obtain⟨_,g2',g3'⟩:=hGq _ _ (List.getElem?_eq_getElem b1);by_cases hq:j / i.size=j' / i.size
   ·rw[<-hq] at b2
    refine g3 _ _ c (fun hm=>hne ?_) a2 b2;have e1:=Nat.div_add_mod j i.size;have e2:=Nat.div_add_mod j' i.size;rw[<-e1,<-e2,hq,hm]
   ·exact k5 _ _ c hq (g2 _ c a2) (g2' _ c b2)
  ·obtain⟨a1,a2⟩:=hj
   obtain⟨_,g2,_⟩:=hGq _ _ (List.getElem?_eq_getElem a1);exact(k2.hF c ⟨_,g2 _ c a2⟩).1
 | none =>
  rw[hrow] at ha;simp only at ha;cases hsr:mZ st x with
  | none=>rw[hsr] at ha;cases ha
  | some M =>
  rw[hsr,Option.bind_some] at ha;injection ha with ha
  subst ha;obtain⟨hsc,hs1,-,hK⟩:=hK
  have hview:∃z,Rd w (live w) vx (.slice z M):=by
   have els:∀{d:D},Rd w (live w) vx d->d.il=some M->∃z,Rd w (live w) vx (.slice z M):=by
    intro d hd he;cases d<;>simp only[D.il,reduceCtorEq,Option.some.injEq] at he
    ·subst he;exact⟨_,hd⟩
    ·subst he;cases hd;exact⟨.dead,.nil⟩
   unfold mZ at hsr;split at hsr
   ·rename_i k p
    have hr:=dW hx;rw[Option.bind_eq_some_iff] at hsr;obtain⟨c,hc,he⟩:=hsr;unfold lk at hc;split at hc<;>simp only[reduceCtorEq,Option.some.injEq] at hc;subst hc;rcases lF (h.ok k) hr with⟨z,l,hck,rfl,hvl⟩ | ⟨F',hown,hFF,_,_⟩
    ·rw[hck] at he;cases he
    ·exact els (Gy (fun b hb=>hb.1.1) (fun b hb=>(h.lt k b (hFF b hb)).1) hown) he
   ·have:∀(hne:∀l,x≠.agg l)(hne':∀l,x≠.au l)(ha:∀k p,x≠.aw k p)(hf:∀f c,x≠.fn f c)(hpr:∀k p n,x≠.pre k p n),∃z,Rd w (live w) vx (.slice z M):=fun h1 h2 h3 h4 h5 =>
     els ((b6 hx (by intro k p hh;rename_i hno;exact hno k p hh) h3 h4 h1 h2 h5).mono (fun b hb=>hb.1.1) fun _ _=>rfl) hsr
    exact this (by rintro l rfl;cases hsr) (by rintro l rfl;cases hsr) (by rintro k p rfl;cases hsr) (by rintro f c rfl;cases hsr) (by rintro k p n rfl;cases hsr)
  obtain⟨z,hrd⟩:=hview;obtain⟨news,n1,n2⟩:=Wx (P:=P) ht hrd hsc (aq cx fp G w);refine wq (ty:=ty) ht hi hz hzs hsz hby hK h hw hs (fun x hx=>?_) (by rw[hs1];exact n1) (fun _ _=>False) (by rw[hs1];exact n2) (fun _ _ _ _ h=>h.elim) (fun _ _ h=>h.elim);have:=hsc x hx;rw[hs1];cases x<;>first | rfl | cases this
end
end Go.D3
namespace Go.D3
open Go
section
variable{P:Program}{cx:Ctx}{vl:Nat->Value}{fp:Nat->Nat->Prop}{G:Nat->Prop}{w:World}{A:Nat->Prop}
theorem CZ{ct:Nat->D}{v:Value}{c:D}(h:Pl w A (aj w ct vl) v c)(hs:c.cP=true)(A':Nat->Prop):an w A' v c (fun _=>False)/\v.oneCell'=true:=by
 cases c<;>try(cases hs;done)
 case int=>obtain⟨rfl,h1⟩:=ey h;exact⟨.int h1,rfl⟩
 case bool=>have:=pl_bool h;subst this;exact⟨.bool,rfl⟩
 case str=>obtain⟨rfl,h1⟩:=gG h;exact⟨.str h1,rfl⟩
theorem Lx{ct:Nat->D}(h:Hp cx ct vl fp G w){kb ke ks:Nat}{z z0:D}{L l:List D}(hb:ct kb=.o (.slice z L))(hks:ct ks=.row z0 l)(hl:∀e∈l,e.cP=true)(hke:ct ke=.dead)(hnr:∀k,(ct k).refs (cG kb))
  {t ty e:TypeId} {i:TypeInfo} {zv:Value} (ht:P.underlying t=some (.slice e)) (hi:P.info? e=some i) (hz:i.zero=some zv) (hzs:zv.cells.size=i.size) (hsz:i.size=1) (hby : 0<i.bytes) (hbd:(L.length+l.length)*i.bytes<=140737488355328)
  (hesz:(D.slice z L).gz=i.size) :
  ∃v' w',(Builtin.append_ #[t,t] ty #[vl kb,vl ks]).run P w=.ok v' w'/\∃fp' G',Hp cx (ay (ay ct kb .dead) ke (.o ((D.slice z L).dQ l))) (ay vl ke v') fp' G' w':=by
 have hcells:∀{x:D},x.cP=true->x.cells=[x]:=fun {x} hx=>by cases x<;>first | rfl | cases hx
 have hkk:kb≠ke:=fun hh=>by rw[hh,hke] at hb;cases hb
 have hown:an w (aq cx fp G w) (vl kb) (.slice z L) (fp kb):=by have:=h.ok kb;rw[hb] at this;exact this
 have h2:=h.drop kb hnr (vl kb);have ev:ay vl kb (vl kb)=vl:=by funext j;simp only[ay];split<;>simp_all
 rw[ev] at h2
 have aO:∀b,aq cx fp G w b->aq cx (ay fp kb fun _=>False) (fun b=>G b\/fp kb b) w b:=by
  rintro b ⟨h1,h2,h3⟩;refine⟨h1,fun hg=>hg.elim h2 (h3 kb),fun j hj=>?_⟩;by_cases hjk:j=kb
  ·subst hjk;rw[bc] at hj;exact hj
  ·rw[aG _ _ hjk] at hj;exact h3 j hj
 have hok:=h.ok ks;rw[hks] at hok;obtain⟨b,eH,cs,e0,q1,q2,q3,q4,q5,q6,q7,q8,q9⟩:=hok
 have hszr:l≠[]->eH=1:=fun hne=>by
  cases l with
  | nil=>exact absurd rfl hne
  | cons a r =>
   have e1:=q7 a (by simp);rw[hcells (hl a (by simp))] at e1;simpa using e1.symm
 have hcs:cs.size=l.length:=by
  cases hll:l with
  | nil=>rw[hll] at q3;simpa using q3
  | cons a r=>rw[q3,hszr (by rw[hll];simp),hll];simp
 have hcl:∀j (hj:j<l.length),cellAt l 1 j=some l[j]:=fun j hj=>by
  unfold cellAt;rw[Nat.div_one,Nat.mod_one,List.getElem?_eq_getElem hj];simp[hcells (hl l[j] (List.getElem_mem hj))]
 have hcell:∀j (hj:j<l.length),Pl w (aq cx fp G w) (aj w ct vl) (cs.getD j undef) l[j]:=fun j hj=>by
  have hs1:=hszr (by intro hh;rw[hh] at hj;simp at hj);subst hs1;exact(q8 j _ (hcl j hj)).1
 have hsrc:Src P i.size t (vl ks) l.length cs.toList w:=by
  rw[hsz,q1];refine Src.ofSlice w ht ⟨b,0,none⟩ l.length l.length cs.toList (by rw[Array.length_toList,hcs,Nat.mul_one]) (fun j u hj=>?_) (fun u hu=>?_)
  ·rw[Addr.add_lit]
   simp only[Array.getElem?_toList] at hj;simp[World.cell?,q2,hj]
  ·obtain⟨j,hj,rfl⟩:=List.getElem_of_mem hu
   have hj':j<cs.size:=by simpa using hj
   have e1:cs.toList[j]=cs.getD j undef:=by simp[hj']
   rw[e1];exact(CZ (hcell j (by omega)) (hl _ (List.getElem_mem _)) (fun _=>True)).2
 obtain⟨v',w',F',r1,r2,r3,r4,r5,r6,r7,r8⟩:=CX (ty:=ty) ht hi hz hzs (by omega) hby (hown.mono aO (fun _ _=>rfl) (fun _ _=>rfl) fun _ h=>h) hesz (fun x hx=>by rw[hsz,hcells (hl x hx)];rfl) hsrc (fun _ _=>False)
  (fun c hc=>⟨hc.1.1,fun hf=>hc.2.1 (.inr hf)⟩) (fun c hc=>(h.lt kb c hc).1) (fun _ _ hc=>hc.elim) (fun j d hd=>by
    rw[hsz] at hd;have hj:j<l.length:=by have:=kR (by omega) hd;omega
    rw[hcl j hj] at hd;injection hd with hd
    subst hd;have e1:cs.toList.getD j undef=cs.getD j undef:=by simp
    rw[e1]
    exact(CZ (hcell j hj) (hl _ (List.getElem_mem _)) _).1) (fun _ _ _ _ hc=>hc.elim) (fun _ _ _ hc=>hc) hbd
 have h3:=h2.xY r3 (fun b hb hg=>r4 b hb fun hf=>hg (.inr hf)) r5 r6 r7;refine⟨v',w',r1,_,fun _=>False,h3.put (k:=ke) (by rw[aG _ _ (fun hh=>hkk hh.symm),hke];rfl) (F:=F') (c:=.o ((D.slice z L).dQ l)) (show an w' _ v' _ F' from r2.mono (fun b hb=>?_) (fun _ _=>rfl) (fun _ _=>rfl) fun _ h=>h) (fun b hb=>?_) (fun _ h=>h.elim) (fun _ _ h=>h) (fun h=>by cases h)⟩
 ·exact⟨⟨by have:=hb.1.1;omega,hb.1.2⟩,fun hg=>hg.elim hb.2.1 fun hh=>by have:=hb.1.1;omega,hb.2.2⟩
 ·rcases(r8 b hb).2 with hf | hf | hf
  ·exact .inl (.inr hf)
  ·obtain⟨_,hf⟩:=hf;exact hf.elim
  ·exact .inr ⟨hf,(r8 b hb).1⟩
def sy(ct:Nat->D)(bytes b s:Nat)(c:D):Prop :=
 ∃y z0 l m,ct (1000+b)=.o y/\y.ck=some m/\y.gz=1/\ct (1000+s)=.row z0 l/\(∀e∈l,e.cP=true)/\(m+l.length)*bytes<=140737488355328/\c=.o (y.dQ l)/\∀k,(ct k).refs (cG (1000+b))
theorem Kh:∀{l:List D},jN l=true->∀e∈l,e.cP=true
 | [],_,e,he=>by cases he
 | x::r,h,e,he=>by
  simp only[jN,Bool.and_eq_true] at h;rcases List.mem_cons.1 he with rfl | he
  ·exact h.1
  ·exact Kh h.2 e he
theorem yc{Q:D->Prop}:∀{l:List D}(k:Nat),bK Q l->(nth l k).refs Q
 | [],_,_=>trivial
 | _::_,0,h=>h.1
 | _::_,k+1,h=>yc k h.2
theorem xe{kb:Nat}:∀{l:List D}{i:Nat}(k:Nat),qO kb i l->(nth l k).refs (cG kb)/\(cu (i+k) (nth l k)).core.refs (cG kb)
 | [],i,k,_=>⟨trivial,trivial⟩
 | x::r,i,0,h=>⟨h.1,h.2.1⟩
 | x::r,i,k+1,h=>by
  have:=xe k h.2.2;rw[show i+1+k=i+(k+1) by omega] at this;exact this
theorem C0{sz bytes b s:Nat}{K:St->Prop}{st:St}(h:wx sz bytes b s K st):sz=1/\∃c,sy st.cont bytes b s c/\(∀j,j<1000->(cu j (st.cont j)).core.refs (cG (1000+b)))/\K ((st.put (1000+b) .dead).push c):=by
 obtain⟨h0,h⟩:=h;refine⟨h0,?_⟩;cases hr:(st.cont (1000+s)).row? with
 | none=>rw[hr] at h;exact h.elim
 | some l =>
 rw[hr] at h;obtain⟨h1,h⟩:=h;cases ho:(st.cont (1000+b)).o? with
 | none=>rw[ho] at h;exact h.elim
 | some y =>
 rw[ho] at h;obtain⟨h2,h⟩:=h;cases hl:y.ck with
 | none=>rw[hl] at h;exact h.elim
 | some m =>
 rw[hl] at h;obtain⟨h3,h4,h5,h6⟩:=h
 obtain⟨z0,hrow⟩:∃z0,st.cont (1000+s)=.row z0 l:=by
  cases hc:st.cont (1000+s)<;>rw[hc] at hr<;>simp only[D.row?,reduceCtorEq,Option.some.injEq] at hr;exact⟨_,by rw[hr]⟩
 have hy:st.cont (1000+b)=.o y:=by
  cases hc:st.cont (1000+b)<;>rw[hc] at ho<;>simp only[D.o?,reduceCtorEq,Option.some.injEq] at ho;rw[ho]
 refine⟨_,⟨y,z0,l,m,hy,hl,h2,hrow,Kh h1,h3,rfl,fun k=>?_⟩,fun j hj=>?_,h6⟩
 ·unfold St.cont
  split
  ·exact(xe k h4).1
  ·split
   ·exact yc _ h5
   ·trivial
 ·unfold St.cont
  rw[if_pos hj];have:=(xe j h4).2
  rwa [Nat.zero_add] at this
theorem CY{ct:Nat->D}(h:Hp cx ct vl fp G w){bytes b s ke:Nat}{c:D}(hf:sy ct bytes b s c)(hke:ct ke=.dead)
  {t ty e:TypeId} {i:TypeInfo} {zv:Value} (ht:P.underlying t=some (.slice e)) (hi:P.info? e=some i) (hz:i.zero=some zv) (hzs:zv.cells.size=i.size) (hsz:i.size=1) (hiby:i.bytes=bytes) (hby : 0<bytes) :
  ∃v' w',(Builtin.append_ #[t,t] ty #[vl (1000+b),vl (1000+s)]).run P w=.ok v' w'/\∃fp' G',Hp cx (ay (ay ct (1000+b) .dead) ke c) (ay vl ke v') fp' G' w':=by
 subst hiby;obtain⟨y,z0,l,m,h1,h2,h3,h4,h5,h6,rfl,h7⟩:=hf;have hown:an w (aq cx fp G w) (vl (1000+b)) y (fp (1000+b)):=by have:=h.ok (1000+b);rw[h1] at this;exact this
 obtain⟨z,L,rfl,rfl⟩:=C9 hown h2;exact Lx h h1 h4 h5 hke h7 ht hi hz hzs hsz hby h6 (by rw[h3,hsz])
end
end Go.D3
namespace Go.D3
open Go
section
variable{w:World}{A:Nat->Prop}{R R':Value->D->Prop}{v:Value}{F:Nat->Prop}
theorem Pl.tidy{d:D}(h:Pl w A R v d)(hR:∀v d,R v d->Rd w A v d):Pl w A R' v d:=by
 induction h with
 | rd h=>exact .rd h
 | ref h=>exact .rd (hR _ _ h)
 | agg hs _ ih=>exact .agg hs ih
 | au hs _ ih=>exact .au hs ih
 | fn hs _ ih=>exact .fn hs ih
theorem b7.tidy{d:D}(h:b7 w A R v F d)(hR:∀v d,R v d->Rd w A v d):b7 w A R' v F d:=by
 cases d<;>first | exact Pl.tidy h hR | exact h
theorem aK.tidy{d:D}(h:aK w A R v F d)(hR:∀v d,R v d->Rd w A v d):aK w A R' v F d:=by
 cases d
 case o x=>exact h
 case box l =>
  obtain⟨h0,b,cs,e,Fs,h1,h2,h3,h4,h5,h6,h7⟩:=h;exact⟨h0,b,cs,e,Fs,h1,h2,h3,fun j c hj=>(h4 j c hj).tidy hR,h5,h6,h7⟩
 case row z l =>
  obtain⟨b,sz,cs,e,h1,h2,h3,h3',h3'',h3a,h3b,h4,h5⟩:=h;exact⟨b,sz,cs,e,h1,h2,h3,h3',h3'',h3a,h3b,fun j c hj=>⟨(h4 j c hj).1.tidy hR,(h4 j c hj).2⟩,h5⟩
 case when g x=>exact⟨fun hg=>(h.1 hg).tidy hR,h.2⟩
 all_goals exact Pl.tidy h hR
theorem aK.bare{ct:Nat->D}{vl:Nat->Value}{d:D}(h:aK w A (aj w ct vl) v F d)(hd:d.refs eP):aK w A R' v F d:=by
 refine aK.tidy (h.mono (Q:=eP) (A':=A) (w':=w) (R':=fun _ _=>False) (fun _ h=>h) (fun _ _=>rfl) (fun _ _=>rfl) (fun _ h=>h) hd fun v d hq hr=>?_) ?_
 ·rcases aj.form v d hr with⟨k,p,rfl⟩ | ⟨k,p,rfl⟩ | ⟨k,p,n,rfl⟩
  ·exact hq.elim
  ·exact hq.elim
  ·exact hq.elim
 ·exact fun _ _ h=>h.elim
end
section
variable{P:Program}{o:Oper}{cx:Ctx}{vl:Nat->Value}{fp:Nat->Nat->Prop}{G:Nat->Prop}{w:World}{a:Act}{ds:List (Option Nat)}{tr:List Nat}{Q:Exit->Act->World->Prop}
def ko(A:Nat->Prop)(w w':World)(F1 F2:Nat->Prop)(b:Nat):Prop:=A b\/(w.heap.size<=b/\b<w'.heap.size/\¬F1 b/\¬F2 b)
theorem xA{f:FuncId}{xs:List X}(hk:aY P ds tr o (.ik f xs)=true){as:List Operand}(hop:∃f',oh o.op=some (f',as)){v0:Value}{rest:List Value}(has:as.map a.eval=v0::rest){F A:Nat->Prop}{X0 Y0 res:D}{dl:List D}
  (hR:aC P f (.io X0 Y0::dl.map .v) res) (hgA:eX w A) (hA:∀b,A b->b<w.heap.size) (h0:aK w A (fun _ _=>False) v0 F X0) (hrl:rest.length=dl.length) (hrest:∀(j:Nat)(d:D),dl[j]?=some d->Rd w A (rest.getD j undef) d)
  (hF:∀b,F b->b<w.heap.size/\¬A b) {K:Act->World->Prop}
  (hK:∀(v:Value)(w':World)(F1 F2:Nat->Prop),w.heap.size<=w'.heap.size->an w' (ko A w w' F1 F2) v res F1->aK w' (ko A w w' F1 F2) (fun _ _=>False) v0 F2 Y0 ->
    (∀b,F1 b->b<w'.heap.size/\(w.heap.size<=b\/F b)/\¬F2 b)->(∀b,F2 b->b<w'.heap.size/\(w.heap.size<=b\/F b))->(∀b,b<w.heap.size->¬F b->w'.heap[b]?=w.heap[b]?) ->
    w'.os=w.os->w'.tape=w.tape->w'.output=w.output->K (a.put o.dst v) w'):o.wp P a w K Q:=by
 simp only[aY] at hk;split at hk<;>try(cases hk;done)
 rename_i f' as' hop';obtain⟨f'',hop⟩:=hop;rw[hop] at hop';simp only[Option.some.injEq,Prod.mk.injEq] at hop';obtain⟨rfl,rfl⟩:=hop';obtain⟨ts,ho⟩:=yo hop;simp only[Bool.and_eq_true,beq_iff_eq] at hk;obtain⟨⟨rfl,hk1⟩,hk2⟩:=hk;unfold Oper.wp;rw[wL ho hk2,Oper.upon_enter,has];refine(hR w A _ (fun j b=>j=0/\F b) hgA hA (by simp[hrl]) (fun j x hj=>?_) (fun i j b hij hi hj=>hij (hi.1.trans hj.1.symm)) (fun j b hb=>⟨(hF b hb.2).1,(hF b hb.2).2,by rw[hb.1];simp⟩)).mono ?_
 ·cases j with
  | zero =>
   simp only[List.getElem?_cons_zero,Option.some.injEq] at hj;subst hj;exact h0.mono (Q:=fun _=>True) (fun _ h=>h) (fun _ _=>rfl) (fun _ _=>rfl) (fun b hb=>⟨rfl,hb⟩) (bq (fun _=>trivial) _) fun _ _ _ h=>h
  | succ j =>
   simp only[List.getElem?_cons_succ,List.getElem?_map,Option.map_eq_some_iff] at hj;obtain⟨d,hj,rfl⟩:=hj;refine⟨?_,fun b hb=>by cases hb.1⟩;have:=hrest j d hj;simpa using this
 ·rintro e w' ⟨v,F1,Fs',rfl,hsz,hown,hpost,hF1,hFs',_,hsame,hos,htape,hout⟩
  have h2:=hpost 0 _ rfl;have hsub:∀b,(A b\/(w.heap.size<=b/\b<w'.heap.size/\¬F1 b/\∀j,¬Fs' j b))->ko A w w' F1 (Fs' 0) b:=fun b hb=>hb.imp id fun hh=>⟨hh.1,hh.2.1,hh.2.2.1,hh.2.2.2 0⟩
  have e0:(v0::rest).toArray.getD 0 undef=v0:=rfl;rw[e0] at h2
  refine hK v w' F1 (Fs' 0) hsz (hown.mono hsub (fun _ _=>rfl) (fun _ _=>rfl) fun _ h=>h) ((show aK _ _ _ _ _ _ from h2).mono (Q:=fun _=>True) hsub (fun _ _=>rfl) (fun _ _=>rfl) (fun _ h=>h) (bq (fun _=>trivial) _) fun _ _ _ h=>h)
   (fun b hb=>⟨(hF1 b hb).1,(hF1 b hb).2.1.imp id fun⟨_,h⟩=>h.2,(hF1 b hb).2.2 0⟩) (fun b hb=>⟨(hFs' 0 b hb).1,(hFs' 0 b hb).2.1.imp id fun⟨_,h⟩=>h.2⟩) (fun b hb hn=>hsame b hb fun j h=>hn h.2) hos htape hout
theorem Hp.swap{ct:Nat->D}(h:Hp cx ct vl fp G w){k:Nat}{c':D}{F' G':Nat->Prop}{w':World}(Q:D->Prop)(hobj:c'.isObj=true)
  (hc:aK w' (ko (aq cx fp G w) w w' G' F') (fun _ _=>False) (vl k) F' c') (hrefs:∀j,j≠k->(ct j).refs Q)
  (hF:∀b,F' b->b<w'.heap.size/\(w.heap.size<=b\/fp k b)) (hG:∀b,G' b->b<w'.heap.size/\(w.heap.size<=b\/fp k b)) (hFG:∀b,G' b->¬F' b)
  (hsz:w.heap.size<=w'.heap.size) (hw:∀b,b<w.heap.size->¬fp k b->w'.heap[b]?=w.heap[b]?) (hos:w'.os=w.os) (htape:w'.tape=w.tape) (hout:w'.output=w.output)
  (hsub:∀p,Q (.sub k p)->(ct k).eo p->c'.eo p/\aN w' (vl k) c' p=aN w (vl k) (ct k) p)
  (hadr:∀p,Q (.aw k p)->(ct k).aX p->c'.aX p/\aH w' (vl k) c' p=aH w (vl k) (ct k) p) :
  Hp cx (ay ct k c') vl (ay fp k F') G' w'/\∀b,ko (aq cx fp G w) w w' G' F' b->aq cx (ay fp k F') G' w' b:=by
 have aO:∀b,ko (aq cx fp G w) w w' G' F' b->aq cx (ay fp k F') G' w' b:=by
  rintro b (⟨h1,h2,h3⟩ | ⟨h1,h2,h3,h4⟩)
  ·refine⟨⟨by have:=h1.1;omega,h1.2⟩,fun hg=>(hG b hg).2.elim (fun hh=>by have:=h1.1;omega) (h3 k),fun j hj=>?_⟩
   by_cases hjk:j=k
   ·subst hjk;rw[bc] at hj;exact(hF b hj).2.elim (fun hh=>by have:=h1.1;omega) (h3 _)
   ·rw[aG _ _ hjk] at hj;exact h3 j hj
  ·refine⟨⟨h2,fun hh=>by have:=h.size;omega⟩,h3,fun j hj=>?_⟩
   by_cases hjk:j=k
   ·subst hjk;rw[bc] at hj;exact h4 hj
   ·rw[aG _ _ hjk] at hj;have:=(h.lt j b hj).1;omega
 have hkeep:∀d,Q d->df w w' ct (ay ct k c') vl vl d:=by
  intro d hd;cases d<;>try trivial
  case sub j p =>
   intro(hp:(ct j).eo p);by_cases hjk:j=k
   ·subst hjk
    simp only[bc];exact hsub p hd hp
   ·simp only[aG _ _ hjk]
    exact⟨hp,(gq (h.ok j) hp.1 fun b hb=>hw b (h.lt j b hb).1 (h.b8 j k hjk b hb)).1⟩
  case aw j p =>
   intro hp;by_cases hjk:j=k
   ·subst hjk
    simp only[bc];exact hadr p hd hp
   ·simp only[aG _ _ hjk]
    exact⟨hp,(gq (h.ok j) hp fun b hb=>hw b (h.lt j b hb).1 (h.b8 j k hjk b hb)).2⟩
 have own0:∀b,(w.heap.size<=b\/fp k b)->(cx.F0 b\/cx.w0.heap.size<=b):=fun b hb=>hb.elim (fun hh=>.inr (by have:=h.size;omega)) fun hh=>(h.lt k b hh).2
 refine⟨⟨fun j=>?_,fun i j hij b hi hj=>?_,fun j b hj hg=>?_,fun j hj b hb=>?_,fun j b hj=>?_,fun b hb=>⟨(hG b hb).1,own0 b (hG b hb).2⟩,Nat.le_trans h.size hsz,fun b hb hb0=>?_,hos.trans h.os,htape.trans h.tape,hout.trans h.output⟩,aO⟩
 ·by_cases hjk:j=k
  ·subst hjk
   simp only[bc];exact hc.mono (Q:=fun _=>True) aO (fun _ _=>rfl) (fun _ _=>rfl) (fun _ h=>h) (bq (fun _=>trivial) _) fun v d _ hr=>hr.elim
  ·simp only[aG _ _ hjk]
   exact(h.ok j).mono (Q:=Q) (fun b hb=>aO b (.inl hb)) (fun b hb=>hw b hb.1.1 (hb.2.2 k)) (fun b hb=>hw b (h.lt j b hb).1 (h.b8 j k hjk b hb)) (fun _ h=>h) (hrefs j hjk) fun v d hq hr=>hr.cz (dq hkeep hq)
 ·by_cases h1:i=k<;>by_cases h2:j=k
  ·omega
  ·subst h1;rw[bc] at hi;rw[aG _ _ h2] at hj;exact(hF b hi).2.elim (fun hh=>by have:=(h.lt j b hj).1;omega) (h.b8 j i (Ne.symm hij) b hj)
  ·subst h2;rw[bc] at hj;rw[aG _ _ h1] at hi;exact(hF b hj).2.elim (fun hh=>by have:=(h.lt i b hi).1;omega) (h.b8 i j hij b hi)
  ·rw[aG _ _ h1] at hi;rw[aG _ _ h2] at hj;exact h.b8 i j hij b hi hj
 ·by_cases hjk:j=k
  ·subst hjk;rw[bc] at hj;exact hFG b hg hj
  ·rw[aG _ _ hjk] at hj;exact(hG b hg).2.elim (fun hh=>by have:=(h.lt j b hj).1;omega) (h.b8 j k hjk b hj)
 ·by_cases hjk:j=k
  ·subst hjk;rw[bc] at hj;rw[hobj] at hj;cases hj
  ·rw[aG _ _ hjk] at hj hb;exact h.emp j hj b hb
 ·by_cases hjk:j=k
  ·subst hjk;rw[bc] at hj;exact⟨(hF b hj).1,own0 b (hF b hj).2⟩
  ·rw[aG _ _ hjk] at hj;exact⟨by have:=(h.lt j b hj).1;omega,(h.lt j b hj).2⟩
 ·have hlt:b<w.heap.size:=by have:=h.size;omega
  rw[hw b hlt fun hk=>((h.lt k b hk).2).elim hb0 fun hh=>by omega];exact h.same b hb hb0
theorem GX{st:St}(h:Hp cx st.cont vl fp G w)(hw:st.wf){v:Value}{res:D}{F:Nat->Prop}(ho:an w (aq cx fp G w) v res F)(hF:∀b,F b->G b) :
  (∃fp' G',Hp cx (st.push (aV res)).cont (ay vl (1000+st.n) v) fp' G' w)/\(st.push (aV res)).wf/\(st.push (aV res)).n=st.n+1/\∀i,i<1000->st.cont i=.dead->(st.push (aV res)).cont i=.dead:=by
 have hd:st.cont (1000+st.n)=.dead:=St.cZ (by simp only[St.in,not_or,not_and];omega);refine⟨?_,St.fo hw _,rfl,fun i hi hd=>by rw[St.dz hw,aG _ _ (by omega)];exact hd⟩;rw[St.dz hw];obtain⟨h1,h2⟩:=nG (R:=aj w st.cont vl) ho;by_cases hob:(aV res).isObj=true
 ·exact⟨_,fun _=>False,h.put (by rw[hd];rfl) h1 hF (fun _ h=>h.elim) (fun _ _ h=>h) (fun hh=>by rw[hob] at hh;cases hh)⟩
 ·exact⟨_,fun _=>False,h.put (by rw[hd];rfl) (h2 (by simpa using hob)) (fun _ h=>h.elim) (fun _ h=>h.elim) (fun _ h=>h.elim) (fun _ _ h=>h)⟩
theorem xk:∀(l ys:List D){K:St->Prop}{st:St}{fp:Nat->Nat->Prop}{A:Nat->Prop}{vs:Nat->Value}{F1:Nat->Prop}{Fs:Nat->Nat->Prop},gB l ys K st->Hp cx st.cont vl fp (fun b=>F1 b\/∃j,Fs j b) w->st.wf ->
  (∀(j k:Nat)(s:Nat×Nat)(p:Path),l[j]?=some (.sub k (s::p))->aj w st.cont vl (vs j) (.sub k (s::p)))->(∀(j:Nat)(y:D),ys[j]?=some y->an w A (vs j) y (Fs j))->(∀b,A b->aq cx fp (fun b=>F1 b\/∃j,Fs j b) w b) ->
  (∀i j b,i≠j->Fs i b->¬Fs j b)->(∀j b,Fs j b->¬F1 b) ->
  ∃st' fp',K st'/\Hp cx st'.cont vl fp' F1 w/\(∀b,A b->aq cx fp' F1 w b)/\st'.wf/\st'.n=st.n/\∀i,st.cont i=.dead->st'.cont i=.dead
 | [],[],K,st,fp,A,vs,F1,Fs,hK,h,hw,_,_,hA,_,_=>⟨st,fp,hK,h.release fun b hb=>.inl hb,fun b hb=>⟨(hA b hb).1,fun hg=>(hA b hb).2.1 (.inl hg),(hA b hb).2.2⟩,hw,rfl,fun _ h=>h⟩
 | [],_::_,_,_,_,_,_,_,_,hK,_,_,_,_,_,_,_=>hK.elim
 | _::_,[],_,_,_,_,_,_,_,hK,_,_,_,_,_,_,_=>hK.elim
 | x::r,y::ys,K,st,fp,A,vs,F1,Fs,hK,h,hw,hl,hy,hA,hdis,hF1=>by
  simp only[gB] at hK
  have skip:gB r ys K st->∃st' fp',K st'/\Hp cx st'.cont vl fp' F1 w/\(∀b,A b->aq cx fp' F1 w b)/\st'.wf/\st'.n=st.n/\∀i,st.cont i=.dead->st'.cont i=.dead:=by
   intro hK;have hsub:∀b,(F1 b\/∃j,Fs (j+1) b)->F1 b\/∃j,Fs j b:=fun b hb=>hb.imp id fun⟨j,hj⟩=>⟨_,hj⟩
   exact xk r ys (vs:=fun j=>vs (j+1)) (Fs:=fun j=>Fs (j+1)) hK (h.release hsub) hw (fun j k s p hj=>hl (j+1) k s p (by simpa using hj)) (fun j y hj=>hy (j+1) y (by simpa using hj))
    (fun b hb=>⟨(hA b hb).1,fun hg=>(hA b hb).2.1 (hsub b hg),(hA b hb).2.2⟩) (fun i j b hij=>hdis _ _ b (by omega)) (fun j b=>hF1 _ b)
  unfold ph at hK;split at hK
  ·rename_i k s p
   obtain⟨hag,hrr,hK⟩:=hK;have hne:s::p≠[]:=by simp
   obtain⟨hs,hv,-⟩:=hl 0 k s p rfl;generalize hP:s::p=p0 at hK hs hv hne hrr
   have hin:st.in k:=by
    by_cases hin:st.in k
    ·exact hin
    ·rw[St.cZ hin] at hs;exact hs.1.elim
   have h1:=h.kill (bL k p0);obtain⟨kd,ks⟩:=E8 (bL k p0) hs hne;have hkv:=(jC (w:=w) (bL k p0) (st.cont k) (vl k) p0 hs.1).2.1;have hsub:∀b,(F1 b\/∃j,Fs (j+1) b)->F1 b\/∃j,Fs j b:=fun b hb=>hb.imp id fun⟨j,hj⟩=>⟨_,hj⟩
   obtain⟨h2,h3⟩:=h1.fill (G':=fun b=>F1 b\/∃j,Fs (j+1) b) ks hne (hkv.trans hv) ((hy 0 y rfl).mono hA (fun _ _=>rfl) (fun _ _=>rfl) fun _ h=>h) hag (fun b hb=>.inr ⟨0,hb⟩) hsub
    (fun b hb hg=>hg.elim (hF1 0 b hb) fun⟨j,hj⟩=>hdis 0 (j+1) b (by omega) hb hj) (fun j=>iR (bL k p0) (st.cont j))
   have ec:((st.kill (bL k p0)).put k (((st.kill (bL k p0)).cont k).xj p0 y)).cont=ay (fun j=>(st.cont j).kill (bL k p0)) k (((st.cont k).kill (bL k p0)).setAt p0 (if bz ((st.cont k).kill (bL k p0)) p0=true then .o y else y)):=by
    rw[St.eC (St.gr hw _) (by simpa[St.in,St.kill,lj] using hin),St.dy];rfl
   rw[<-ec] at h2 h3
   obtain⟨st',fp',r1,r2,r3,r4,r5,r6⟩:=xk r ys (vs:=fun j=>vs (j+1)) (Fs:=fun j=>Fs (j+1)) hK h2 (St.eV (St.gr hw _) _ _)
    (fun j k' s' p' hj=>by
      have hr:=hl (j+1) k' s' p' (by simpa using hj);refine hr.cz (show df _ _ _ _ _ _ _ from(nW st.cont (bL k p0) _).trans (h3 _ ?_));have:=bB.1 hrr _ (List.mem_of_getElem? hj)
      exact this)
    (fun j y hj=>hy (j+1) y (by simpa using hj))
    (fun b hb=>by
      refine⟨(hA b hb).1,fun hg=>(hA b hb).2.1 (hsub b hg),fun j hj=>?_⟩;by_cases hjk:j=k
      ·subst hjk;rw[bc] at hj;exact hj.elim ((hA b hb).2.2 _) fun hh=>(hA b hb).2.1 (.inr ⟨0,hh⟩)
      ·rw[aG _ _ hjk] at hj;exact(hA b hb).2.2 j hj)
    (fun i j b hij=>hdis _ _ b (by omega)) (fun j b=>hF1 _ b)
   refine⟨st',fp',r1,r2,r3,r4,by rw[r5,St.fO];rfl,fun i hi=>r6 i ?_⟩;rw[ec];have hik:i≠k:=by rintro rfl;rw[hi] at hs;exact hs.1.elim
   rw[aG _ _ hik,hi];rfl
  ·exact skip hK
theorem CW:∀(p q:Path),apart p q=apart q p
 | [],[]=>rfl
 | [],_::_=>rfl
 | _::_,[]=>rfl
 | s::p,t::q=>by
  simp only[apart];by_cases h:s=t
  ·rw[if_pos h,if_pos h.symm];exact CW p q
  ·rw[if_neg h,if_neg (Ne.symm h)]
theorem vX:∀(l:List D){K:List D->St->Prop}{st:St},cV l K st->∀(i j:Nat)(x y:D),i<j->l[i]?=some x->l[j]?=some y->x.refs fun s=>match s with | .sub k p=>y.refs (lN k p) | _=>True
 | [],K,st,_,i,j,x,y,_,hi,_=>by simp at hi
 | z::r,K,st,h,i,j,x,y,hij,hi,hj=>by
  simp only[cV] at h;cases j with
  | zero=>omega
  | succ j =>
   cases i with
   | zero =>
    simp at hi;subst hi;refine dq (fun s hs=>?_) h.1;cases s<;>first | trivial | exact bB.1 hs y (List.mem_of_getElem? (by simpa using hj))
   | succ i =>
    obtain⟨x',st',h'⟩:=vW z h.2;exact vX r h' i j x y (by omega) (by simpa using hi) (by simpa using hj)
theorem sB{l:List D}{K:List D->St->Prop}{st:St}(h:cV l K st){i k:Nat}{s:Nat×Nat}{p:Path}(hi:l[i]?=some (.sub k (s::p))):bK (fun t=>kj t (.sub k (s::p))) l:=by
 refine bB.2 fun y hy=>?_
 obtain⟨j,hj,rfl⟩:=List.getElem_of_mem hy;have hj':l[j]?=some l[j]:=List.getElem?_eq_getElem hj;rcases Nat.lt_trichotomy i j with hij | hij | hij
 ·have h1:=vX l h i j _ _ hij hi hj'
  have h1:(l[j]).refs (lN k (s::p)):=h1;refine dq (fun t ht=>?_) h1;cases t<;>try trivial
  rename_i k' p';refine .inl ?_;rcases ht with ht | ht
  ·exact .inl (Ne.symm ht)
  ·exact .inr (by rw[CW];exact ht)
 ·subst hij
  rw[hi] at hj';injection hj' with hj'
  rw[<-hj'];refine .inr ⟨by simp,?_⟩
  have gt:∀p:Path,gC p p=false:=by
   intro p;induction p with
   | nil=>rfl
   | cons _ p ih=>exact ih
  simp only[bL,gt,Bool.and_false]
 ·have h1:=vX l h j i _ _ hij hj' hi
  refine dq (fun t ht=>?_) h1;cases t<;>try trivial
  exact .inl ht
theorem GM{rd:X->D}:∀{xs:List X},jL rd xs->∀y∈xs,(rd y).core.refs eP
 | [],_,y,hy=>by cases hy
 | x::r,h,y,hy=>by
  rcases List.mem_cons.1 hy with rfl | hy
  ·exact h.1
  ·exact GM h.2 y hy
theorem tM{q:D->Bool}(c:D)(h:c.refs eP):c.kill q=c:=by
 have list:∀l:List D,(∀x∈l,x.refs eP->x.kill q=x)->bK eP l->eu q l=l:=by
  intro l ih hl;rw[dV]
  conv=>rhs;rw[<-List.map_id l]
  exact List.map_congr_left fun x hx=>ih x hx (bB.1 hl x hx)
 induction c using D.ind with
 | sub k p=>exact h.elim
 | aw k p=>exact h.elim
 | pre k p n=>exact h.elim
 | agg l ih | au l ih | box l ih | fn _ l ih=>simp only[D.kill];rw[list l ih h]
 | row z l _ ih=>simp only[D.kill];rw[list l ih h]
 | when g x ih=>simp only[D.kill];rw[ih h]
 | _=>rfl
theorem uI{st st1:St}{fp1:Nat->Nat->Prop}{G1 F:Nat->Prop}(h2:Tk cx w vl st fp G st1 fp1 G1 F){l ys:List D}{vs:Nat->Value}{K:St->Prop}{res:D}{v:Value}{w':World}{F1 F2:Nat->Prop}{Fs2:Nat->Nat->Prop}
  (hK:gB l ys (fun st=>K (st.push (aV res))) st1)
  (href:∀(j k:Nat)(s:Nat×Nat)(p:Path),l[j]?=some (.sub k (s::p))->aj w st1.cont vl (vs j) (.sub k (s::p)))
  (hsz:w.heap.size<=w'.heap.size) (hown:an w' (ko (aq cx fp1 G1 w) w w' F1 F2) v res F1) (hy:∀(j:Nat)(y:D),ys[j]?=some y->an w' (ko (aq cx fp1 G1 w) w w' F1 F2) (vs j) y (Fs2 j))
  (hFs:∀j b,Fs2 j b->F2 b) (hdis:∀i j b,i≠j->Fs2 i b->¬Fs2 j b) (hF1:∀b,F1 b->b<w'.heap.size/\(w.heap.size<=b\/F b)/\¬F2 b) (hF2:∀b,F2 b->b<w'.heap.size/\(w.heap.size<=b\/F b))
  (hsame:∀b,b<w.heap.size->¬F b->w'.heap[b]?=w.heap[b]?) (hos:w'.os=w.os) (htape:w'.tape=w.tape) (hout:w'.output=w.output) :
  ∃st',K st'/\(∃fp' G',Hp cx st'.cont (ay vl (1000+st.n) v) fp' G' w')/\st'.wf/\st'.n=st.n+1/\∀i,i<1000->st.cont i=.dead->st'.cont i=.dead:=by
 have h3:=h2.hp.xY hsz (fun b hb hg=>hsame b hb fun hf=>hg (h2.hF b hf).1) hos htape hout;have hin:∀b,(F1 b\/∃j,Fs2 j b)->b<w'.heap.size/\(w.heap.size<=b\/F b):=fun b hb=>hb.elim (fun hh=>⟨(hF1 b hh).1,(hF1 b hh).2.1⟩) fun⟨j,hj⟩=>hF2 b (hFs j b hj)
 have h4:=h3.release (G':=fun b=>F1 b\/∃j,Fs2 j b) fun b hb=>(hin b hb).2.elim (fun hh=>.inr ⟨hh,(hin b hb).1⟩) fun hh=>.inl (h2.hF b hh).1
 obtain⟨st',fp',r1,r2,r3,r4,r5,r6⟩:=xk l ys (vs:=vs) (A:=ko (aq cx fp1 G1 w) w w' F1 F2) (F1:=F1) (Fs:=Fs2) hK h4 h2.wf
  (fun j k s p hj=>(href j k s p hj).cz (show df _ _ _ _ _ _ _ from fun hp=>⟨hp,(gq (h2.hp.ok k) hp.1 fun b hb=>hsame b (h2.hp.lt k b hb).1 fun hf=>h2.hp.cK k b hb (h2.hF b hf).1).1⟩))
  hy (fun b hb=>by
   rcases hb with⟨q1,q2,q3⟩ | ⟨q1,q2,q3,q4⟩
   ·exact⟨⟨by have:=q1.1;omega,q1.2⟩,fun hg=>(hin b hg).2.elim (fun hh=>by have:=q1.1;omega) fun hh=>q2 (h2.hF b hh).1,q3⟩
   ·exact⟨⟨q2,fun hh=>by have:=h2.hp.size;omega⟩,fun hg=>hg.elim q3 fun⟨j,hj⟩=>q4 (hFs j b hj),fun j hj=>by have:=(h2.hp.lt j b hj).1;omega⟩)
  hdis (fun j b hj hf=>(hF1 b hf).2.2 (hFs j b hj))
 obtain⟨k1,k2,k3,k4⟩:=GX r2 r4 (hown.mono r3 (fun _ _=>rfl) (fun _ _=>rfl) fun _ h=>h) (fun _ h=>h);rw[r5,h2.n] at k1 k3;exact⟨_,r1,k1,k2,k3,fun i hi hd=>k4 i hi (r6 i (h2.dd i hd))⟩
theorem Nx{st:St}(h:Hp cx st.cont vl fp G w)(hw:st.wf){f:FuncId}{x0:X}{r:List X}(hk:aY P ds tr o (.ik f (x0::r))=true)
  (hx:∀y,y∈x0::r->∀x,aJ ds tr x y=true->ch w (aq cx fp G w) (aj w st.cont vl) (a.eval x) (st.rd y)) {g:Option Bool} {K:St->Prop}
  (hv:@tE P f (st.rd x0).core (gV st.cont st.rd r) (dT st.rd (x0::r)) (jL st.rd r) g ⟨K⟩ st) {K':Act->World->Prop}
  (hK':∀(v:Value)(w':World)(st':St),K st'->(∃fp' G',Hp cx st'.cont (ay vl (1000+st.n) v) fp' G' w')->st'.wf->st'.n=st.n+1->(∀i,i<1000->st.cont i=.dead->st'.cont i=.dead)->K' (a.put o.dst v) w'):o.wp P a w K' Q:=by
 obtain⟨-,hgt,hpl,dl,hdl,hv⟩:=hv;have hk0:=hk;simp only[aY] at hk;split at hk<;>try(cases hk;done)
 rename_i f' as hop;simp only[Bool.and_eq_true,beq_iff_eq] at hk;obtain⟨⟨rfl,hk1⟩,hk2⟩:=hk;cases as with
 | nil=>simp[eK] at hk1
 | cons x ar =>
 simp only[eK,Bool.and_eq_true] at hk1;simp only[dT,Bool.and_eq_true] at hgt;have hp0:=(hx x0 (by simp) x hk1.1).1 hgt.1;obtain⟨hal,har⟩:=sL (a:=a) (A':=aq cx fp G w) hk1.2 (fun y hy=>hx y (by simp[hy])) (fun y hy v x hv hg=>tu 4 hv (GM hpl y hy) hg) hdl hgt.2;have hop':∃f',oh o.op=some (f',x::ar):=⟨_,hop⟩;have has:(x::ar).map a.eval=a.eval x::ar.map a.eval:=rfl;have hrl:(ar.map a.eval).length=dl.length:=by rw[List.length_map];exact hal
 have hrest:∀(j:Nat)(d:D),dl[j]?=some d->Rd w (aq cx fp G w) ((ar.map a.eval).getD j undef) d:=har
 have whole:∀(k:Nat)(c c' res:D)(q:D->Bool),st.cont k=c->vl k=a.eval x->c.isObj=true->c'.isObj=true->c.refs eP->aC P f (.io c c'::dl.map .v) res ->
   (∀p,q (.sub k p)=false->c.eo p->c'.eo p/\∀w',aN w' (vl k) c' p=aN w (vl k) c p)->(∀p,q (.aw k p)=false->c.aX p->c'.aX p/\∀w',aH w' (vl k) c' p=aH w (vl k) c p) ->
   K (((st.kill q).put k c').push (aV res))->o.wp P a w K' Q:=by
  intro k c c' res q hc hvk hobj hobj' hcr hR hsub hadr hK;have hok:=h.ok k;rw[hc,hvk] at hok;refine xA hk0 hop' has (F:=fp k) (A:=aq cx fp G w) hR h.gl (fun b hb=>hb.1.1) (hok.bare hcr) hrl hrest (fun b hb=>⟨(h.lt k b hb).1,fun hs=>hs.2.2 k hb⟩) ?_;intro v w' F1 F2 hsz hown hcont hF1 hF2 hsame hos htape hout;have h1:=h.kill q
  have hin:st.in k:=by
   by_cases hin:st.in k
   ·exact hin
   ·rw[St.cZ hin] at hc;subst hc;cases hobj
  rw[<-hvk] at hcont
  obtain⟨h2,h3⟩:=h1.swap (c':=c') (k:=k) (F':=F2) (G':=F1) (fun d=>q d=false) hobj' hcont (fun j _=>iR q (st.cont j)) hF2 (fun b hb=>⟨(hF1 b hb).1,(hF1 b hb).2.1⟩) (fun b hb=>(hF1 b hb).2.2) hsz (fun b hb hn=>hsame b hb hn) hos htape hout
   (fun p hq hs=>by
     have hs:c.eo p:=by have hh:((st.cont k).kill q).eo p:=hs;rwa [hc,tM c hcr] at hh
     obtain⟨e1,e2⟩:=hsub p hq hs;refine⟨e1,?_⟩;rw[e2];show _=aN w (vl k) ((st.cont k).kill q) p
     rw[hc,tM c hcr])
   (fun p hq hs=>by
     have hs:c.aX p:=by have hh:((st.cont k).kill q).aX p:=hs;rwa [hc,tM c hcr] at hh
     obtain⟨e1,e2⟩:=hadr p hq hs;refine⟨e1,?_⟩;rw[e2];show _=aH w (vl k) ((st.cont k).kill q) p
     rw[hc,tM c hcr])
  have ec:((st.kill q).put k c').cont=ay (fun j=>(st.cont j).kill q) k c':=by
   rw[St.eC (St.gr hw _) (by simpa[St.in,St.kill,lj] using hin),St.dy]
  rw[<-ec] at h2;obtain⟨k1,k2,k3,k4⟩:=GX h2 (St.eV (St.gr hw _) _ _) (hown.mono h3 (fun _ _=>rfl) (fun _ _=>rfl) fun _ h=>h) (fun _ h=>h);have hn:((st.kill q).put k c').n=st.n:=by rw[St.fO];rfl
  rw[hn] at k1 k3;refine hK' v w' _ hK k1 k2 k3 fun i hi hd=>k4 i hi ?_
  rw[ec];have hik:i≠k:=by rintro rfl;rw[hd] at hc;subst hc;cases hobj
  rw[aG _ _ hik,hd];rfl
 split at hv
 ·
  rename_i k heq;rw[heq] at hp0;obtain⟨l,l',res,hc,hl,hl',hlen,hR,hK⟩:=hv;obtain⟨_,ad,had,hav⟩:=fR hp0;have hok:=h.ok k;rw[hc] at hok had;obtain⟨_,b,cs,e,Fs,hvk,_⟩:=hok;rw[hvk] at had;simp only[aH,dU,D.un,er,Option.some.injEq,Nat.add_zero] at had;refine whole k _ _ res _ hc (by rw[hvk,hav,<-had]) rfl rfl hl hR (fun p hq hs=>?_) (fun p hq hs=>?_) hK
  ·have:=uR hq
   have:p=[]:=List.eq_nil_of_length_eq_zero (by simpa using this);subst this;exact⟨⟨trivial,fun hh=>by cases hh⟩,fun w'=>rfl⟩
  ·have hle:=yZ hq
   cases p with
   | nil=>exact⟨trivial,fun w'=>rfl⟩
   | cons t p =>
    have:p=[]:=List.eq_nil_of_length_eq_zero (by simpa using hle);subst this;obtain⟨i,off⟩:=t;obtain⟨q1,q2,_⟩:=hs;exact⟨⟨q1,by omega,trivial⟩,fun w'=>rfl⟩
 ·
  rename_i k heq;rw[heq] at hp0;obtain⟨y0,y,res,hc,hR,hK⟩:=hv;obtain⟨_,hva,_⟩:=dW hp0;simp only[aN,Option.some.injEq] at hva;refine whole k _ _ res _ hc hva rfl rfl trivial hR (fun p hq hs=>?_) (fun p hq hs=>?_) hK
  ·have:=yY hq
   have:p=[]:=List.eq_nil_of_length_eq_zero (by simpa using this);subst this;exact⟨⟨trivial,fun hh=>by cases hh⟩,fun w'=>rfl⟩
  ·have:=yX hq
   have:p=[]:=List.eq_nil_of_length_eq_zero (by simpa using this);subst this;exact⟨trivial,fun w'=>rfl⟩
 ·
  rename_i k s p heq;rw[heq] at hp0;have hr0:=dW hp0;have hself:=fun i k s p hi=>sB hv (i:=i) (k:=k) (s:=s) (p:=p) hi
  obtain⟨l',st1,fp1,G1,Fs,⟨y0,y,res,rfl,hR,hK⟩,h2,h3,h4,h5,h6⟩:=je (A:=aq cx fp G w) (vs:=#[a.eval x]) _ hv h hw (fun _ h=>h) (fun j y hj=>by
   cases j with
   | zero=>simp at hj;subst hj;exact hp0
   | succ j=>simp at hj)
  have ho:=(h4 0 y0 rfl).1;refine xA hk0 hop' has (F:=Fs 0) (A:=aq cx fp1 G1 w) hR h2.hp.gl (fun b hb=>hb.1.1) ho hrl (fun j d hj=>(hrest j d hj).mono h2.aO fun _ _=>rfl) (fun b hb=>⟨(h2.hp.c7 b (h2.hF b ⟨0,hb⟩).1).1,fun hs=>hs.2.1 (h2.hF b ⟨0,hb⟩).1⟩) ?_;intro v w' F1 F2 hsz hown hcont hF1 hF2 hsame hos htape hout
  obtain⟨st',k1,k2,k3,k4,k5⟩:=uI (vs:=fun _=>a.eval x) (Fs2:=fun j b=>j=0/\F2 b) h2 hK
   (fun j k' s' p' hj=>by
     cases j with
     | zero =>
      have hs:=hself 0 k' s' p' hj;simp at hj;obtain⟨rfl,rfl,rfl⟩:=hj;exact hr0.cz (h6 _ hs)
     | succ j=>simp at hj)
   hsz hown (fun j z hj=>by
    cases j with
    | zero=>simp at hj;subst hj;exact an.mono (show an w' _ (a.eval x) y F2 from hcont) (fun _ h=>h) (fun _ _=>rfl) (fun _ _=>rfl) fun b hb=>⟨rfl,hb⟩
    | succ j=>simp at hj)
   (fun j b hb=>hb.2) (fun i j b hij hi hj=>hij (hi.1.trans hj.1.symm)) (fun b hb=>⟨(hF1 b hb).1,(hF1 b hb).2.1.imp id fun hh=>⟨0,hh⟩,(hF1 b hb).2.2⟩) (fun b hb=>⟨(hF2 b hb).1,(hF2 b hb).2.imp id fun hh=>⟨0,hh⟩⟩) (fun b hb hn=>hsame b hb fun hh=>hn ⟨0,hh⟩) hos htape hout
  exact hK' v w' st' k1 k2 k3 k4 k5
 ·
  rename_i l heq;rw[heq] at hp0;obtain⟨cs,hva,hcs,hcl⟩:=lA hp0;have hself:=fun i k s p hi=>sB hv (i:=i) (k:=k) (s:=s) (p:=p) hi
  obtain⟨xs,st1,fp1,G1,Fs,⟨ys,res,hR,hK⟩,h2,h3,h4,h5,h6⟩:=je (A:=aq cx fp G w) (vs:=cs) _ hv h hw (fun _ h=>h) hcl
  have ho:an w (aq cx fp1 G1 w) (a.eval x) (.agg xs) (fun b=>∃j,Fs j b):=by
   rw[hva];exact .agg Fs (by rw[hcs,h3]) (fun j y hj=>(h4 j y hj).1) (fun j b hb=>⟨j,hb⟩) h5
  refine xA hk0 hop' has (F:=fun b=>∃j,Fs j b) (A:=aq cx fp1 G1 w) hR h2.hp.gl (fun b hb=>hb.1.1) ho hrl (fun j d hj=>(hrest j d hj).mono h2.aO fun _ _=>rfl) (fun b hb=>⟨(h2.hp.c7 b (h2.hF b hb).1).1,fun hs=>hs.2.1 (h2.hF b hb).1⟩) ?_;intro v w' F1 F2 hsz hown hcont hF1 hF2 hsame hos htape hout;have hcont:an w' (ko (aq cx fp1 G1 w) w w' F1 F2) (a.eval x) (.agg ys) F2:=hcont;rw[hva] at hcont;cases hcont with
  | agg Fs2 hs2 hr2 hfs2 hd2 =>
  obtain⟨st',k1,k2,k3,k4,k5⟩:=uI (vs:=fun j=>cs.getD j undef) (Fs2:=Fs2) h2 hK
   (fun j k' s' p' hj=>(dW (hcl j _ hj)).cz (h6 _ (hself j k' s' p' hj)))
   hsz hown (fun j z hj=>hr2 j z hj) hfs2 hd2 hF1 hF2 hsame hos htape hout
  exact hK' v w' st' k1 k2 k3 k4 k5
 ·exact hv.elim
end
end Go.D3
namespace Go.D3
open Go
theorem sq{α:Type}(f:Nat->α)(k:Nat):ay f k (f k)=f:=by
 funext j;simp only[ay];split<;>simp_all
theorem eQ(σ:Nat->Nat):∀l,dF σ l=l.map (D.ax σ)
 | []=>rfl
 | x::r=>by rw[dF,eQ σ r,List.map_cons]
theorem zf(σ:Nat->Nat)(l:List D):(dF σ l).length=l.length:=by rw[eQ,List.length_map]
theorem zd(σ:Nat->Nat)(l:List D)(n:Nat):(dF σ l).getD n .dead=(l.getD n .dead).ax σ:=by
 rw[eQ,List.getD_eq_getElem?_getD,List.getD_eq_getElem?_getD,List.getElem?_map];cases l[n]?<;>rfl
theorem FZ(σ:Nat->Nat):∀(l:List D)(i:Nat),nth (dF σ l) i=(nth l i).ax σ
 | [],_=>rfl
 | _::_,0=>rfl
 | _::l,i+1=>FZ σ l i
theorem TQ{σ:Nat->Nat}{c y:D}:c.ax σ=.o y↔c=.o y:=by
 cases c<;>simp only[D.ax,reduceCtorEq]
theorem Hl{σ:Nat->Nat}{c:D}:c.ax σ=.dead↔c=.dead:=by
 cases c<;>simp only[D.ax,reduceCtorEq]
theorem nR(σ:Nat->Nat)(c:D):(c.ax σ).isObj=c.isObj:=by cases c<;>rfl
theorem uV(σ:Nat->Nat){c:D}{p:Path}(hl:bz c p=true):((c.ax σ).at p).gY=(c.at p).gY:=by
 cases c<;>try(cases hl;done)
 case box l =>
  match p,hl with
  | [(i,off)],_ =>
   have e1:(D.box l).at [(i,off)]=l.getD off .dead:=rfl;have e2:((D.box l).ax σ).at [(i,off)]=(l.getD off .dead).ax σ:=zd σ l off;rw[e1,e2];cases l.getD off .dead<;>rfl
theorem uW(σ:Nat->Nat)(c:D)(p:Path):bz (c.ax σ) p=bz c p:=by
 cases c<;>try rfl
 case box l=>match p with
  | []=>rfl
  | [_]=>rfl
  | _::_::_=>rfl
theorem pU{w:World}(σ:Nat->Nat)(c:D)(v:Value)(p:Path):((c.ax σ).aX p↔c.aX p)/\(c.aX p->aN w v (c.ax σ) p=aN w v c p/\aH w v (c.ax σ) p=aH w v c p):=by
 cases c<;>try exact⟨Iff.rfl,fun h=>h.elim⟩
 case o x=>exact⟨Iff.rfl,fun _=>⟨rfl,rfl⟩⟩
 case row z l =>
  refine⟨Iff.rfl,fun h=>?_⟩;simp only[D.aX] at h;subst h;exact⟨rfl,rfl⟩
 case box l =>
  cases p with
  | nil=>exact⟨Iff.rfl,fun _=>⟨rfl,rfl⟩⟩
  | cons s p =>
   obtain⟨i,off⟩:=s;have hk:D.aZ (.box (dF σ l)) 0 off=(l.getD off .dead).ax σ:=zd σ l off;have hkv:cF w v (.box (dF σ l)) 0 off=cF w v (.box l) 0 off:=rfl;cases p with
   | nil =>
    refine⟨?_,?_⟩
    ·simp only[D.ax,D.aX,eQ,List.length_map]
    ·rintro⟨rfl,ho,hp⟩
     exact⟨by simp only[D.ax,aN,hkv],rfl⟩
   | cons t p =>
    have hk':D.aZ (.box l) 0 off=l.getD off .dead:=rfl;refine⟨?_,?_⟩
    ·simp only[D.ax,D.aX,zd,zf]
     cases l.getD off .dead<;>simp only[D.ax]
    ·rintro⟨rfl,ho,hp⟩
     simp only at hp;split at hp
     ·rename_i y hy
      have hy':(l.getD off .dead).ax σ=.o y:=TQ.2 hy;rw[hy'] at hk;rw[hy] at hk';refine⟨?_,?_⟩
      ·simp only[D.ax];rw[aN,aN,hkv,hk,hk']
      ·simp only[D.ax];rw[aH,aH,hkv,hk,hk']<;>simp
     ·exact hp.elim
theorem TO{σ:Nat->Nat}(c:D)(h:c.refs fun _=>False):c.ax σ=c:=by
 have list:∀l:List D,(∀x∈l,x.refs (fun _=>False)->x.ax σ=x)->bK (fun _=>False) l->dF σ l=l:=by
  intro l ih hl;rw[eQ]
  conv=>rhs;rw[<-List.map_id l]
  exact List.map_congr_left fun x hx=>ih x hx (bB.1 hl x hx)
 induction c using D.ind with
 | sub k p=>exact h.elim
 | aw k p=>exact h.elim
 | pre k p n=>exact h.elim
 | agg l ih | au l ih | box l ih | fn _ l ih=>simp only[D.ax];rw[list l ih h]
 | row z l _ ih=>simp only[D.ax];rw[list l ih h]
 | when g x ih=>simp only[D.ax];rw[ih h]
 | _=>rfl
theorem TT(σ ρ:Nat->Nat)(c:D):(c.ax σ).ax ρ=c.ax (fun i=>ρ (σ i)):=by
 have list:∀l:List D,(∀x∈l,(x.ax σ).ax ρ=x.ax fun i=>ρ (σ i))->dF ρ (dF σ l)=dF (fun i=>ρ (σ i)) l:=by
  intro l ih;rw[eQ,eQ,eQ,List.map_map];exact List.map_congr_left ih
 induction c using D.ind with
 | agg l ih | au l ih | box l ih | fn _ l ih=>simp only[D.ax];rw[list l ih]
 | row z l _ ih=>simp only[D.ax];rw[list l ih]
 | when g x ih=>simp only[D.ax];rw[ih]
 | _=>rfl
theorem TP(c:D):c.ax (fun i=>i)=c:=by
 have list:∀l:List D,(∀x∈l,x.ax (fun i=>i)=x)->dF (fun i=>i) l=l:=by
  intro l ih;rw[eQ]
  conv=>rhs;rw[<-List.map_id l]
  exact List.map_congr_left ih
 induction c using D.ind with
 | agg l ih | au l ih | box l ih | fn _ l ih=>simp only[D.ax];rw[list l ih]
 | row z l _ ih=>simp only[D.ax];rw[list l ih]
 | when g x ih=>simp only[D.ax];rw[ih]
 | _=>rfl
theorem TS{Q Q':D->Prop}{σ:Nat->Nat}{c:D}(h:c.refs Q)(hQ:∀k p,(Q (.sub k p)->Q' (.sub (σ k) p))/\(Q (.aw k p)->Q' (.aw (σ k) p))):(c.ax σ).refs Q':=by
 induction c using D.ind with
 | agg l ih | au l ih | box l ih | fn _ l ih =>
  simp only[D.ax,D.refs,eQ,bB,List.mem_map] at h|-
  rintro _ ⟨y,hy,rfl⟩;exact ih y hy (h y hy)
 | row z l _ ih =>
  simp only[D.ax,D.refs,eQ,bB,List.mem_map] at h|-
  rintro _ ⟨y,hy,rfl⟩;exact ih y hy (h y hy)
 | when g x ih=>exact ih h
 | sub k p=>exact(hQ k p).1 h
 | aw k p=>exact(hQ k p).2 h
 | pre k p n=>exact(hQ k p).1 h
 | _=>trivial
section
variable{w:World}{A:Nat->Prop}{R R':Value->D->Prop}{v:Value}{F:Nat->Prop}{σ:Nat->Nat}
theorem Pl.ax{Q:D->Prop}{c:D}(h:Pl w A R v c):c.refs Q->(∀v d,d.refs Q->R v d->R' v (d.ax σ))->Pl w A R' v (c.ax σ):=by
 induction h with
 | rd h=>exact fun _ _=>by rw[TO _ (h.x9 _)];exact .rd h
 | ref h=>exact fun hq hR=>.ref (hR _ _ hq h)
 | agg hs _ ih =>
  refine fun hq hR=>.agg (by simpa[eQ] using hs) fun j x hx=>?_
  rw[eQ,List.getElem?_map,Option.map_eq_some_iff] at hx;obtain⟨y,hy,rfl⟩:=hx;exact ih j y hy (bB.1 hq y (List.mem_of_getElem? hy)) hR
 | au hs _ ih =>
  refine fun hq hR=>.au (by simpa[eQ] using hs) fun j x hx=>?_
  rw[eQ,List.getElem?_map,Option.map_eq_some_iff] at hx;obtain⟨y,hy,rfl⟩:=hx;exact ih j y hy (bB.1 hq y (List.mem_of_getElem? hy)) hR
 | fn hs _ ih =>
  refine fun hq hR=>.fn (by simpa[eQ] using hs) fun j x hx=>?_
  rw[eQ,List.getElem?_map,Option.map_eq_some_iff] at hx;obtain⟨y,hy,rfl⟩:=hx;exact ih j y hy (bB.1 hq y (List.mem_of_getElem? hy)) hR
theorem b7.ax{Q:D->Prop}{c:D}(h:b7 w A R v F c)(hq:c.refs Q)(hR:∀v d,d.refs Q->R v d->R' v (d.ax σ)):b7 w A R' v F (c.ax σ):=by
 cases c<;>first | exact Pl.ax h hq hR | exact h.elim | exact h
theorem Hk(σ:Nat->Nat)(x:D):(x.ax σ).cells=x.cells.map (D.ax σ):=by
 cases x<;>first | rfl | simp only[D.ax,D.cells,eQ]
theorem TR{c:D}(h:c.pc=true):(c.ax σ).pc=true:=by
 cases c<;>first | exact h | rfl | (simp[D.pc] at h)
theorem L9(σ:Nat->Nat)(l:List D)(sz j:Nat):cellAt (l.map (D.ax σ)) sz j=(cellAt l sz j).map (D.ax σ):=by
 unfold cellAt;rw[List.getElem?_map];cases l[j / sz]? with
 | none=>rfl
 | some d=>simp only[Option.map_some,Option.bind_some,Hk,List.getElem?_map]
theorem aK.ax{Q:D->Prop}{c:D}(h:aK w A R v F c)(hq:c.refs Q)(hR:∀v d,d.refs Q->R v d->R' v (d.ax σ)):aK w A R' v F (c.ax σ):=by
 cases c
 case o x=>exact h
 case box l =>
  obtain⟨h0,b,cs,e,Fs,h1,h2,h3,h4,h5,h6,h7⟩:=h;simp only[D.ax,eQ];refine⟨by simpa using h0,b,cs,e,Fs,h1,h2,by simpa using h3,fun j c hj=>?_,h5,h6,h7⟩;rw[List.getElem?_map,Option.map_eq_some_iff] at hj;obtain⟨y,hy,rfl⟩:=hj;exact(h4 j y hy).ax (bB.1 hq y (List.mem_of_getElem? hy)) hR
 case row z l =>
  obtain⟨b,sz,cs,e,h1,h2,h3,h3',h3'',h3a,h3b,h4,h5⟩:=h;simp only[D.ax,eQ];refine⟨b,sz,cs,e,by simpa using h1,h2,by simpa using h3,by simpa using h3',h3'',h3a,fun x hx=>?_,fun j c hj=>?_,h5⟩
  ·obtain⟨y,hy,rfl⟩:=List.mem_map.1 hx
   rw[Hk,List.length_map];exact h3b y hy
  ·rw[L9,Option.map_eq_some_iff] at hj
   obtain⟨y,hy,rfl⟩:=hj;have hq':bK Q l:=hq;exact⟨(h4 j y hy).1.ax (Hf (fun x hx=>bB.1 hq' x hx) hy) hR,TR (h4 j y hy).2⟩
 case when g x=>exact⟨fun hg=>(h.1 hg).ax hq hR,h.2⟩
 all_goals exact Pl.ax h hq hR
theorem aj.ax{ct ct':Nat->D}{vl vl':Nat->Value}{d:D}(h:aj w ct vl v d)(hct:∀k,ct k≠.dead->ct' (σ k)=(ct k).ax σ)(hvl:∀k,ct k≠.dead->vl' (σ k)=vl k):aj w ct' vl' v (d.ax σ):=by
 have nd:∀{k:Nat}{p:Path},(ct k).aX p->ct k≠.dead:=fun h hh=>by rw[hh] at h;exact h
 cases d<;>try exact h.elim
 case sub k p =>
  obtain⟨⟨h1,h1'⟩,h2,h3⟩:=h;have hk:=pU (w:=w) σ (ct k) (vl k) p;refine⟨⟨?_,fun hl=>?_⟩,?_,h3⟩
  ·rw[hct k (nd h1)];exact hk.1.2 h1
  ·rw[hct k (nd h1)] at hl|-
   rw[uW] at hl;rw[uV σ hl];exact h1' hl
  ·rw[hct k (nd h1),hvl k (nd h1),(hk.2 h1).1];exact h2
 case pre k p n =>
  obtain⟨q,m,c,⟨⟨h1,h1'⟩,h2⟩,h3,h4⟩:=h;have hk:=pU (w:=w) σ (ct k) (vl k) p;refine⟨q,m,c,⟨⟨?_,fun hl=>?_⟩,?_⟩,h3,h4⟩
  ·rw[hct k (nd h1)];exact hk.1.2 h1
  ·rw[hct k (nd h1)] at hl|-
   rw[uW] at hl;rw[uV σ hl];exact h1' hl
  ·rw[hct k (nd h1),hvl k (nd h1),(hk.2 h1).1];exact h2
 case aw k p =>
  obtain⟨h1,a,h2,h3⟩:=h;have hk:=pU (w:=w) σ (ct k) (vl k) p;refine⟨?_,a,?_,h3⟩
  ·rw[hct k (nd h1)];exact hk.1.2 h1
  ·rw[hct k (nd h1),hvl k (nd h1),(hk.2 h1).2];exact h2
theorem aj.lI{ct ct':Nat->D}{vl vl':Nat->Value}{d:D}(h:aj w ct' vl' v (d.ax σ))(hct:∀k,ct' (σ k)=(ct k).ax σ)(hvl:∀k,ct k≠.dead->vl' (σ k)=vl k):aj w ct vl v d:=by
 cases d<;>try exact h.elim
 case sub k p =>
  obtain⟨⟨h1,h1'⟩,h2,h3⟩:=h;have hk:=pU (w:=w) σ (ct k) (vl k) p;rw[hct k] at h1 h1' h2;have h0:=hk.1.1 h1;have nd:ct k≠.dead:=fun hh=>by rw[hh] at h0;exact h0
  refine⟨⟨h0,fun hl=>?_⟩,?_,h3⟩
  ·rw[<-uV σ hl];exact h1' (by rw[uW];exact hl)
  ·rw[<-(hk.2 h0).1,<-hvl k nd];exact h2
 case pre k p n =>
  obtain⟨q,m,c,⟨⟨h1,h1'⟩,h2⟩,h3,h4⟩:=h;have hk:=pU (w:=w) σ (ct k) (vl k) p;rw[hct k] at h1 h1' h2;have h0:=hk.1.1 h1;have nd:ct k≠.dead:=fun hh=>by rw[hh] at h0;exact h0
  refine⟨q,m,c,⟨⟨h0,fun hl=>?_⟩,?_⟩,h3,h4⟩
  ·rw[<-uV σ hl];exact h1' (by rw[uW];exact hl)
  ·rw[<-(hk.2 h0).1,<-hvl k nd];exact h2
 case aw k p =>
  obtain⟨h1,a,h2,h3⟩:=h;have hk:=pU (w:=w) σ (ct k) (vl k) p;rw[hct k] at h1 h2;have h0:=hk.1.1 h1;have nd:ct k≠.dead:=fun hh=>by rw[hh] at h0;exact h0
  refine⟨h0,a,?_,h3⟩;rw[<-(hk.2 h0).2,<-hvl k nd];exact h2
def uE(σ:Nat->Nat):D->Prop
 | .sub k _=>∃i,k=σ i
 | .aw k _=>∃i,k=σ i
 | _=>True
theorem Hm(c:D):(c.ax σ).refs (uE σ) :=
 TS (Q:=fun _=>True) (bq (fun _=>trivial) c) fun _ _=>⟨fun _=>⟨_,rfl⟩,fun _=>⟨_,rfl⟩⟩
theorem Ek(hσ:∀i j,σ i=σ j->i=j):∃ρ:Nat->Nat,∀i,ρ (σ i)=i:=by
 classical
 refine⟨fun k=>if h:∃i,σ i=k then Classical.choose h else 0,fun i=>?_⟩;have h:∃j,σ j=σ i:=⟨i,rfl⟩;simp only[dif_pos h];exact hσ _ _ (Classical.choose_spec h)
theorem KW(_:∀i j,σ i=σ j->i=j){ρ:Nat->Nat}(hρ:∀i,ρ (σ i)=i){ct ct':Nat->D}{vl vl':Nat->Value}(hct:∀k,ct' (σ k)=(ct k).ax σ)(hvl:∀k,ct k≠.dead->vl' (σ k)=vl k) :
  ∀v d,d.refs (uE σ)->aj w ct' vl' v d->aj w ct vl v (d.ax ρ):=by
 intro v d hq hr
 have e:(d.ax ρ).ax σ=d:=by
  cases d<;>try exact hr.elim
  case sub k p=>obtain⟨i,rfl⟩:=hq;simp only[D.ax,hρ]
  case aw k p=>obtain⟨i,rfl⟩:=hq;simp only[D.ax,hρ]
  case pre k p n=>obtain⟨i,rfl⟩:=hq;simp only[D.ax,hρ]
 exact aj.lI (σ:=σ) (by rw[e];exact hr) hct hvl
theorem Hj{ρ:Nat->Nat}(hρ:∀i,ρ (σ i)=i)(c:D):(c.ax σ).ax ρ=c:=by
 rw[TT,show(fun i=>ρ (σ i))=fun i=>i from funext hρ,TP]
theorem aK.lI(hσ:∀i j,σ i=σ j->i=j){ct ct':Nat->D}{vl vl':Nat->Value}{c:D}(h:aK w A (aj w ct' vl') v F (c.ax σ))(hct:∀k,ct' (σ k)=(ct k).ax σ)(hvl:∀k,ct k≠.dead->vl' (σ k)=vl k) :
  aK w A (aj w ct vl) v F c:=by
 obtain⟨ρ,hρ⟩:=Ek hσ;have:=h.ax (Q:=uE σ) (σ:=ρ) (R':=aj w ct vl) (Hm c) (KW hσ hρ hct hvl)
 rwa [Hj hρ] at this
theorem Pl.lI(hσ:∀i j,σ i=σ j->i=j){ct ct':Nat->D}{vl vl':Nat->Value}{c:D}(h:Pl w A (aj w ct' vl') v (c.ax σ))(hct:∀k,ct' (σ k)=(ct k).ax σ)(hvl:∀k,ct k≠.dead->vl' (σ k)=vl k) :
  Pl w A (aj w ct vl) v c:=by
 obtain⟨ρ,hρ⟩:=Ek hσ;have:=h.ax (Q:=uE σ) (σ:=ρ) (R':=aj w ct vl) (Hm c) (KW hσ hρ hct hvl)
 rwa [Hj hρ] at this
theorem lG:∀{l:List D},kJ l=true->∀x∈l,x.tight=true
 | [],_,x,hx=>by cases hx
 | y::r,h,x,hx=>by
  simp only[kJ,Bool.and_eq_true] at h;rcases List.mem_cons.1 hx with rfl | hx
  ·exact h.1
  ·exact lG h.2 x hx
theorem WS{A':Nat->Prop}{d:D}(h:Rd w A v d):d.tight=true->Rd w A' v d:=by
 induction h with
 | int h=>exact fun _=>.int h
 | bool=>exact fun _=>.bool
 | str h=>exact fun _=>.str h
 | bp=>exact fun _=>.bp
 | aB=>exact fun _=>.aB
 | dead=>exact fun _=>.dead
 | agg hs _ ih=>exact fun ht=>.agg hs fun j x hx=>ih j x hx (lG ht x (List.mem_of_getElem? hx))
 | au hs _ ih=>exact fun ht=>.au hs fun j x hx=>ih j x hx (lG ht x (List.mem_of_getElem? hx))
 | fn hs _ ih=>exact fun ht=>.fn hs fun j x hx=>ih j x hx (lG ht x (List.mem_of_getElem? hx))
 | _=>exact fun ht=>by simp[D.tight] at ht
theorem Ak{A':Nat->Prop}{d:D}(h:Pl w A R v d):d.tight=true->Pl w A' R v d:=by
 induction h with
 | rd h=>exact fun ht=>.rd (WS h ht)
 | ref h=>exact fun _=>.ref h
 | agg hs _ ih=>exact fun ht=>.agg hs fun j x hx=>ih j x hx (lG ht x (List.mem_of_getElem? hx))
 | au hs _ ih=>exact fun ht=>.au hs fun j x hx=>ih j x hx (lG ht x (List.mem_of_getElem? hx))
 | fn hs _ ih=>exact fun ht=>.fn hs fun j x hx=>ih j x hx (lG ht x (List.mem_of_getElem? hx))
theorem WN{A':Nat->Prop}{d:D}(h:b7 w A R v F d)(ht:d.qb=true):b7 w A' R v F d:=by
 cases d
 case o x=>exact uq h ht
 all_goals first | exact h.elim | exact Ak h ht
theorem KR:∀{l:List D},qc l=true->∀x∈l,x.qb=true
 | [],_,x,hx=>by cases hx
 | y::r,h,x,hx=>by
  simp only[qc,Bool.and_eq_true] at h;rcases List.mem_cons.1 hx with rfl | hx
  ·exact h.1
  ·exact KR h.2 x hx
theorem WQ{d:D}(h:d.tight=true)(hd:∀x∈d.cells,x.tight=true->True):∀x∈d.cells,x.tight=true:=by
 intro x hx;cases d<;>simp only[D.cells,List.mem_singleton] at hx<;>first | (subst hx;exact h) | exact lG h x hx
theorem WO{l:List D}{sz j:Nat}{c:D}(h:kJ l=true)(hc:cellAt l sz j=some c):c.tight=true:=by
 unfold cellAt at hc;cases hL:l[j / sz]? with
 | none=>simp[hL] at hc
 | some d =>
  rw[hL,Option.bind_some] at hc;exact WQ (lG h d (List.mem_of_getElem? hL)) (fun _ _ _=>trivial) c (List.mem_of_getElem? hc)
theorem WR{A':Nat->Prop}{d:D}(h:aK w A R v F d)(ht:d.iZ=true):aK w A' R v F d:=by
 cases d
 case o x=>exact uq h ht
 case box l =>
  obtain⟨h0,b,cs,e,Fs,h1,h2,h3,h4,h5,h6,h7⟩:=h;exact⟨h0,b,cs,e,Fs,h1,h2,h3,fun j c hj=>WN (h4 j c hj) (KR ht c (List.mem_of_getElem? hj)),h5,h6,h7⟩
 case row z l =>
  obtain⟨b,sz,cs,e,h1,h2,h3,h3',h3'',h3a,h3b,h4,h5⟩:=h;exact⟨b,sz,cs,e,h1,h2,h3,h3',h3'',h3a,h3b,fun j c hj=>⟨Ak (h4 j c hj).1 (WO ht hj),(h4 j c hj).2⟩,h5⟩
 case when g x=>cases ht
 all_goals exact Ak h ht
theorem KS:∀{l:List D},kK l=true->∀k,(nth l k).iZ=true
 | [],_,k=>rfl
 | y::r,h,k=>by
  simp only[kK,Bool.and_eq_true] at h;cases k with
  | zero=>exact h.1
  | succ k=>exact KS h.2 k
end
theorem yk{σ:Nat->Nat}{c:D}(h:c.c8=true):(c.ax σ).c8=true:=by
 cases c<;>first | exact h | rfl | cases h
theorem pO{w:World}{A:Nat->Prop}{R:Value->D->Prop}{v:Value}{F:Nat->Prop}{c:D}(h:c.c8=true):aK w A R v F c↔Pl w A R v c:=by
 cases c<;>first | exact Iff.rfl | cases h
theorem Gf{c:D}(h:c.c8=true):c.isObj=false:=by cases c<;>first | rfl | cases h
end Go.D3
