/- A REGION'S OPERATIONS IN ANOTHER ORDER;OPERATIONS ON VALUES ALONE GO FIRST. Generic. -/
import Derived.Test.YtgieggnpnepkfaaGreatDoorDraw
namespace Go.D3
open Go
section
variable {P:Program} {o:Oper} {w:World} {A:Nat→Prop} {ct:Nat→D} {vl:Nat→Value} {a:Act} {ds:List (Option Nat)} {tr:List Nat} {rd:X→D} {ob:Nat→D} {Q:Exit→Act→World→Prop}
theorem vop_any {k:Kp} {side:Prop} {res:D} (hv:SOp.isV ⟨none,k⟩=true) (hp:pev k rd ob=some (side,res)) (hk:isK P ds tr o k=true)
  (hx:∀ y,y∈k.xs→∀ x,isX ds tr x y=true→PlG w A (RefOk w ct vl) (a.eval x) (rd y))
  (hok:∀ j,∃ F,ContOk w A (RefOk w ct vl) (vl j) F (ct j)) (hs:side):∃ v,∀ w',Yd P o a w' v:=by
 cases k<;>try (simp [SOp.isV] at hv;done)
 case mv y =>
  simp only [isK] at hk
  split at hk<;>try (cases hk;done)
  rename_i x' hop
  exact ⟨_,fun w'=>yd_move (opMove_s hop)⟩
 case nck x =>
  simp only [isK] at hk
  split at hk<;>try (cases hk;done)
  rename_i x' hop
  have ho:=opNck_s hop
  have hp:g1 (rd x) (nckR (rd x).core)=some (side,res):=hp
  obtain ⟨s,h1,rfl⟩:=g1_some hp
  have hx':=(hx x (by simp [Kp.xs]) x' hk).1 hs.1
  generalize (rd x).core=xx at h1 hx'
  unfold nckR at h1
  split at h1
  all_goals try (cases h1;done)
  ·obtain ⟨b,off,e1,_⟩:=pl_ptr hx'
   exact ⟨_,fun w'=>yd_nckP ho e1⟩
  ·obtain ⟨b,off,e1,_⟩:=adr_none hok (pl_adr hx')
   exact ⟨_,fun w'=>yd_nckP ho e1⟩
  ·obtain ⟨cs,e1,_⟩:=pl_fn hx'
   exact ⟨_,fun w'=>yd_nckF ho e1⟩
 case fA off x =>
  simp only [isK] at hk
  split at hk<;>try (cases hk;done)
  rename_i t x' f hop
  have ho:=opFA_s hop
  simp only [Bool.and_eq_true] at hk
  obtain ⟨hk1,hk2⟩:=hk
  split at hk2
  ·rename_i p0 ft hf
   simp only [Bool.and_eq_true,decide_eq_true_eq,Bool.not_eq_true'] at hk2
   obtain ⟨⟨rfl,h2⟩,h3⟩:=hk2
   have hp:g1 (rd x) (fAR p0 ob (rd x).core)=some (side,res):=hp
   obtain ⟨s,h1,rfl⟩:=g1_some hp
   have hx':=(hx x (by simp [Kp.xs]) x' hk1).1 hs.1
   generalize (rd x).core=xx at h1 hx'
   unfold fAR at h1
   split at h1
   ·rename_i l
    have hrd:Rd w A (a.eval x') (.ptr l):=pl_rd hx' (by simp) (by simp) (by simp) (by simp) (by simp)
    generalize hv:a.eval x'=v at hrd
    cases hrd with
    | @ptr b o' _ hA vs hcells hr=>exact ⟨_,fun w'=>yd_fA ho hf h2 h3 hv⟩
   ·obtain ⟨b,off,e1,_⟩:=adr_none hok (pl_adr hx')
    exact ⟨_,fun w'=>yd_fA ho hf h2 h3 e1⟩
   ·cases h1
  ·cases hk2
theorem renum_exec (ρ:Nat→Nat) (f:Operand→Value) (o:Oper):execOp f (renum ρ o)=execOp f o:=rfl
theorem renum_wp (ρ:Nat→Nat) (K:Act→World→Prop):(renum ρ o).wp P a w K Q=o.wp P a w K Q:=by
 unfold Oper.wp
 rw [renum_exec]
 rfl
theorem renum_asks (ρ:Nat→Nat):(renum ρ o).asks P a w=o.asks P a w:=by
 unfold Oper.asks
 rw [renum_exec]
end
section
variable {P:Program} {md:Region.Mode} {ops ops':Array Oper} {Q:Exit→Act→World→Prop}
theorem wpAny_perm {n:Nat} {ρ:Nat→Nat} (hs:ops.size=n) (hs':ops'.size=n) (hρ:∀ j,j<n→ρ j<n) (hinj:∀ i j,i<n→j<n→ρ i=ρ j→i=j) (hsur:∀ i,i<n→∃ j,j<n∧ρ j=i)
  (hops:∀ (j:Nat) (o:Oper),ops[j]?=some o→ops'[ρ j]?=some (renum ρ o)) (hg:∀ (j:Nat) (o:Oper) (i:Nat) (b:Bool),ops[j]?=some o→o.guard=some (i,b)→i<n)
  (he:∀ (j:Nat) (o:Oper) (e:Edge),ops[j]?=some o→e∈o.after→Region.binds md e=true→e.on<n) :
  ∀ (fuel:Nat) (T T':Array Bool) (a:Act) (w:World),T.size=n→T'.size=n→(∀ j,j<n→T.getD j false=T'.getD (ρ j) false)→wpAny P md ops' Q fuel T' a w→wpAny P md ops Q fuel T a w:=by
 have rdy:∀ (T T':Array Bool),T.size=n→T'.size=n→(∀ j,j<n→T.getD j false=T'.getD (ρ j) false)→∀ j,j<n→(j∈Region.ready md ops T↔ρ j∈Region.ready md ops' T'):=by
  intro T T' h1 h2 hT j hj
  have hoj:ops[j]?=some ops[j]:=Array.getElem?_eq_getElem (by omega)
  rw [mem_ready,mem_ready,getD_both (T:=T) (i:=j) (by omega) true,getD_both (T:=T') (i:=ρ j) (by have:=hρ j hj;omega) true,hT j hj,hoj,hops j _ hoj]
  refine and_congr Iff.rfl ⟨?_,?_⟩
  ·rintro ⟨o,ho,h⟩
   cases ho
   refine ⟨_,rfl,fun e hem hb=>?_⟩
   simp only [renum,Array.mem_map] at hem
   obtain ⟨e0,he0,rfl⟩:=hem
   have hb0:Region.binds md e0=true:=hb
   have:=h e0 he0 hb0
   rwa [hT _ (he j _ e0 hoj he0 hb0)] at this
  ·rintro ⟨o,ho,h⟩
   cases ho
   refine ⟨_,rfl,fun e hem hb=>?_⟩
   have:=h { e with on:=ρ e.on } (by simp only [renum,Array.mem_map];exact ⟨e,hem,rfl⟩) hb
   rwa [hT _ (he j _ e hoj hem hb)]
 have rlt:∀ (T:Array Bool) (o:Array Oper),o.size=n→∀ i,i∈Region.ready md o T→i<n:=by
  intro T o ho i hi
  obtain ⟨_,x,hx,_⟩:=mem_ready.1 hi
  have:=(Array.getElem?_eq_some_iff.1 hx).1
  omega
 have emp:∀ (T T':Array Bool),T.size=n→T'.size=n→(∀ j,j<n→T.getD j false=T'.getD (ρ j) false)→(Region.ready md ops T=[]↔Region.ready md ops' T'=[]):=by
  intro T T' h1 h2 hT
  constructor
  ·intro h
   rw [List.eq_nil_iff_forall_not_mem]
   intro i hi
   obtain ⟨j,hj,rfl⟩:=hsur i (rlt _ _ hs' i hi)
   have:=(rdy T T' h1 h2 hT j hj).2 hi
   rw [h] at this;cases this
  ·intro h
   rw [List.eq_nil_iff_forall_not_mem]
   intro j hj
   have:=(rdy T T' h1 h2 hT j (rlt _ _ hs j hj)).1 hj
   rw [h] at this;cases this
 intro fuel
 induction fuel with
 | zero=>exact fun T T' a w h1 h2 hT h=>⟨(emp T T' h1 h2 hT).2 h.1,h.2⟩
 | succ fuel ih =>
  intro T T' a w h1 h2 hT h
  refine ⟨fun hr=>h.1 ((emp T T' h1 h2 hT).1 hr),fun j hj=>?_⟩
  have hjn:=rlt _ _ hs j hj
  have hw:=h.2 (ρ j) ((rdy T T' h1 h2 hT j hjn).1 hj)
  have hoj:ops[j]?=some ops[j]:=Array.getElem?_eq_getElem (by omega)
  have hK:∀ a w,wpAny P md ops' Q fuel (T'.setIfInBounds (ρ j) true) a w→wpAny P md ops Q fuel (T.setIfInBounds j true) a w:=fun a w hh=>by
   refine ih _ _ a w (by simpa using h1) (by simpa using h2) (fun i hi=>?_) hh
   by_cases hij:j=i
   ·subst hij
    rw [getD_set_self (by omega),getD_set_self (by have:=hρ j hjn;omega)]
   ·rw [setT_ne hij,setT_ne (fun hc=>hij (hinj _ _ hjn hi hc)),hT i hi]
  generalize ops[j]=o at hoj
  have hyl:∀ i,i<n→∀ tm,yielded ops' tm (ρ i)=yielded ops tm i:=fun i hi tm=>by
   have hoi:ops[i]?=some ops[i]:=Array.getElem?_eq_getElem (by omega)
   unfold yielded
   rw [hoi,hops i _ hoi]
   rfl
  have hwant:∀ tm,Region.wanted (renum ρ o) (yielded ops' tm)=Region.wanted o (yielded ops tm):=fun tm=>by
   unfold Region.wanted
   cases hgu:o.guard with
   | none=>simp [renum,hgu]
   | some g =>
    obtain ⟨i,b⟩:=g
    simp only [renum,hgu,Option.map_some]
    rw [hyl i (hg j o i b hoj hgu)]
  unfold wpOp at hw ⊢
  rw [hops j o hoj] at hw
  rw [hoj]
  simp only at hw ⊢
  rw [hwant] at hw
  by_cases hwn:Region.wanted o (yielded ops a.tmps)=true
  ·rw [if_pos hwn] at hw ⊢
   rw [renum_wp,renum_asks] at hw
   exact hw.imp (Oper.wp_mono hK) id
  ·rw [if_neg hwn] at hw ⊢
   exact hK _ _ hw
end
section
variable {P:Program} {cx:Ctx} {nt:Nat} {tr pre:List Nat} {ops:Array Oper} {l:List SOp} {kh:Nat} {Q:Exit→Act→World→Prop}
theorem draw_first (hR:Rg P nt tr pre ops l kh) {K:St→Prop} (hQ:∀ a w st,K st→st.n=l.length→Fm cx nt tr pre (resDsts ops.toList l) st a w→Q .normal a w) (hQp:∀ c a w,¬ Q (.panic c) a w)
  (hV:∀ i s,i<kh→l[i]?=some s→s.isV=true) (hsel:Region.noSelect ops=true) (hfree:∀ i,i<kh→Region.free .any ops (preL ops.size i) i=true) (hkl:kh≤l.length) :
  ∀ (m:Nat) (sl:List SOp) (st:St) (fuel:Nat) (T:Array Bool) (a:Act) (w:World),st.n+m=kh→l.drop st.n=sl→Fm cx nt tr pre (resDsts ops.toList l) st a w→vcOps P K sl st →
   Closed ops T→(∀ i,i<ops.size→(T.getD i false=true↔i<st.n))→unl ops T≤fuel→wpAny P .any ops Q fuel T a w
 | 0,sl,st,fuel,T,a,w,hm,hl,h,hv,hT,hx,hu=>draw_any hR hQ (sl.length+1) sl st fuel T a w (Nat.lt_succ_self _) (by omega) hl (by omega) h hv hT hx hu
 | m+1,sl,st,fuel,T,a,w,hm,hl,h,hv,hT,hx,hu=>by
  have hn:st.n<l.length:=by omega
  have hls:l[st.n]?=some l[st.n]:=List.getElem?_eq_getElem hn
  have hsl:sl=l[st.n]::l.drop (st.n+1):=by rw [← hl];exact List.drop_eq_getElem_cons hn
  generalize l[st.n]=s at hls hsl
  subst hsl
  have hsv:=hV st.n s (by omega) hls
  obtain ⟨g,k⟩:=s
  have hg:g=none:=by
   simp only [SOp.isV,Bool.and_eq_true,Option.isNone_iff_eq_none] at hsv;exact hsv.1
  subst hg
  obtain ⟨o,ho,hd,hlt,hasg,hgd,hk,hreads,hxs⟩:=hR.op hls
  have hna:k.asgTo=none:=by
   cases k<;>first | rfl | (simp [SOp.isV] at hsv)
  have hpo:st.n<ops.size:=by rw [hR.size];exact hn
  have hpu:T.getD st.n false=false:=by
   cases ht:T.getD st.n false with
   | false=>rfl
   | true=>have:=(hx _ hpo).1 ht;omega
  have hogn:o.guard=none:=by
   cases hog:o.guard with
   | none=>rfl
   | some gg=>rw [hog] at hgd;cases hgd
  have hrdy:st.n∈Region.ready .any ops T:=by
   rw [mem_ready]
   refine ⟨by rw [getD_both (by rw [hT.1];exact hpo)];exact hpu,o,ho,fun e hem hb=>?_⟩
   have hE:=hR.edges
   simp only [edgesOk,List.all_eq_true] at hE
   have h1:=hE (o,st.n) (List.mem_zipIdx_iff_getElem?.2 (by simpa using ho)) e (by simpa using hem)
   simp only [hb,Bool.not_true,Bool.false_or,decide_eq_true_eq] at h1
   exact (hx e.on (by omega)).2 h1
  have hv':opVC P k none (vcOps P K (l.drop (st.n+1))) st:=hv
  have hpv:pureVC (pev k st.rd st.cont) none (vcOps P K (l.drop (st.n+1))) st:=by
   cases k<;>first | exact hv' | (simp [SOp.isV] at hsv)
  have hyd:∃ v,∀ w',Yd P o a w' v:=by
   obtain ⟨vl,fp,G,hp,htr,htm,hgh⟩:=h.ex
   unfold pureVC at hpv
   split at hpv
   ·cases hpv.1
   rename_i side res hpev
   exact vop_any hsv hpev hk (fun y hy x hxy=>isX_ok hp htr htm hxy (fun i hi=>hreads i (reads_of (by rw [← hi];exact hy))) (fun j hj=>hxs j (by rw [← hj];exact hy))) (fun j=>⟨_,hp.ok j⟩) hpv.1
  obtain ⟨v,hyd⟩:=hyd
  have hw1:=op_step (P:=P) (Q:=Q) hR.slots h (s:=⟨none,k⟩) (g:=none) (by simp) hk hd (fun j hj=>by rw [hna] at hj;cases hj) hlt hreads hxs hv'
  unfold Oper.wp at hw1
  rw [hyd w,Oper.upon_value] at hw1
  obtain ⟨st',k1,k2,k3⟩:=hw1
  have hup:=unl_pos hpo hpu
  obtain ⟨fuel,rfl⟩:∃ f,fuel=f+1:=⟨fuel-1,by omega⟩
  have hio:=hfree st.n (by omega)
  have hyl:Yields P ops o v a:=.inl ⟨by simp [Region.wanted,hogn],hyd⟩
  refine wpAny_first ho (Region.noSelect_spec hsel) (fun c a w hh=>absurd hh (hQp c _ _)) fuel T a w (fun j oj hj hji hun hno=>?_) hrdy hyl ?_
  ·refine Region.free_spec ho hio j oj hj hji ?_ hno
   have hjl:=(Array.getElem?_eq_some_iff.1 hj).1
   have hjn:¬ j<st.n:=fun hc=>by
    have:=(hx j hjl).2 hc
    rw [getD_both (by rw [hT.1];exact hjl) true] at hun
    rw [this] at hun;cases hun
   simp [preL,Array.getD,hjl,hjn]
  ·refine draw_first hR hQ hQp hV hsel hfree hkl m _ st' fuel _ _ w (by omega) (by rw [k3]) k2 k1 (closed_set hT hpo (ready_unl hT hrdy).2.2) (fun i hi=>?_) ?_
   ·by_cases hij:st.n=i
    ·subst hij
     rw [getD_set_self (by rw [hT.1];exact hi)]
     simp;omega
    ·rw [setT_ne hij,hx i hi]
     omega
   ·have:=unl_set hT.1 hpo hpu;omega
end
theorem eops_text (tr:List Nat) (ops:Array Oper) (l:List SOp):eops tr false ops l=ops:=by simp [eops,needH]
theorem permOk_get {l:List Nat} {n:Nat} (h:permOk l n=true):l.length=n∧(∀ j,j<n→posOf l j<n∧l.getD (posOf l j) n=j)∧∀ i,i<n→l.getD i n<n∧posOf l (l.getD i n)=i:=by
 simp only [permOk,Bool.and_eq_true,decide_eq_true_eq,List.all_eq_true,List.mem_range] at h
 exact ⟨h.1.1,h.1.2,h.2⟩
theorem permO_size (l:List Nat) (ops:Array Oper):(permO l ops).size=l.length:=by simp [permO]
theorem permO_get {l:List Nat} {ops:Array Oper} (h:permOk l ops.size=true) {j:Nat} {o:Oper} (ho:ops[j]?=some o):(permO l ops)[posOf l j]?=some (renum (posOf l) o):=by
 obtain ⟨h1,h2,_⟩:=permOk_get h
 obtain ⟨hj,rfl⟩:=Array.getElem?_eq_some_iff.1 ho
 obtain ⟨h3,h4⟩:=h2 j hj
 have h5:l[posOf l j]?=some j:=by
  rw [List.getD_eq_getElem?_getD,List.getElem?_eq_getElem (by omega),Option.getD_some] at h4
  rw [List.getElem?_eq_getElem (by omega),h4]
 unfold permO
 rw [List.getElem?_toArray,List.getElem?_map,h5]
 simp [Array.getD,hj]
theorem perm_run {P:Program} {l:List Nat} {ops:Array Oper} {Q:Exit→Act→World→Prop} (h:permOk l ops.size=true) (hg:guardsOk ops.size ops.toList=true) (hE:edgesOk ops.toList=true) {a:Act} {w:World}
  (hw:wpAny P .any (permO l ops) Q ops.size (Array.replicate ops.size false) a w):wpAny P .any ops Q ops.size (Array.replicate ops.size false) a w:=by
 obtain ⟨h1,h2,h3⟩:=permOk_get h
 refine wpAny_perm (n:=ops.size) (ρ:=posOf l) rfl (by rw [permO_size,h1]) (fun j hj=>(h2 j hj).1) (fun i j hi hj hij=>?_) (fun i hi=>⟨l.getD i ops.size,?_,(h3 i hi).2⟩) (fun j o ho=>permO_get h ho) (fun j o i b ho hgu=>?_) (fun j o e ho hem hb=>?_) _ _ _ a w (by simp) (by simp) (fun j hj=>?_) hw
 ·rw [← (h2 i hi).2,← (h2 j hj).2,hij]
 ·exact (h3 i hi).1
 ·have hj:=(Array.getElem?_eq_some_iff.1 ho).1
  simp only [guardsOk,List.all_eq_true] at hg
  have:=hg o (by rw [← Array.mem_def];exact Array.mem_of_getElem? ho)
  rw [hgu] at this
  simpa using this
 ·have hj:=(Array.getElem?_eq_some_iff.1 ho).1
  simp only [edgesOk,List.all_eq_true] at hE
  have h4:=hE (o,j) (List.mem_zipIdx_iff_getElem?.2 (by simpa using ho)) e (by simpa using hem)
  simp only [hb,Bool.not_true,Bool.false_or,decide_eq_true_eq] at h4
  omega
 ·have:=(h2 j hj).1
  simp [Array.getD,hj,this]
end Go.D3
