/- CONTRACTS: maps of schemas: the program's side. -/
import Derived.Test.YtpnchponfnbmiaaGreatDoorGBK
import Derived.Test.YtpnchponfnbmiaaGreatDoorGAL
namespace Go.D3
open Go Go.RowKit Go.Extern.Stop Go.Stop Go.Extern
set_option maxRecDepth 100000
set_option maxHeartbeats 4000000
theorem Lx{w:World}{v:Value}(h:w.cell? ⟨0,0,none⟩=some v) : 0<w.heap.size:=by
 rcases Nat.eq_zero_or_pos w.heap.size with h0 | h1
 ·simp[World.cell?,h0] at h
 ·exact h1
theorem RH(v:Value)(w:World)(Φ:Addr->World->Prop)(hc:Calls Go.Proofs.Tryz.prog 115 #[v] w fun e w'=>∃a,e=.returned (.tuple #[.pointer (some a),.nilIface])/\Φ a w') :
  Calls Go.Proofs.Tryz.prog 89 #[v] w fun e w''=>∃a w',e=.returned (.tuple #[.pointer (some a),.int .i64 0])/\Φ a w'/\∃s t,w''=w'.alloc (.cells #[.string s] t):=by
 go_enter Go.Proofs.Tryz.func89,Go.Proofs.Tryz.ntmps89
 go_wp2_with (first
  | (go_at_call 115;refine hc.mono ?_;rintro e w' ⟨a,rfl,hΦ⟩)
  | (go_at_call 116;refine(KY _ _).mono ?_;rintro e w' ⟨rfl,rfl⟩))
 all_goals go_ret2
 exact⟨a,w',rfl,hΦ,_,_,rfl⟩
theorem RG(v:Value)(w:World)(Φ:World->Prop)(hc:Calls Go.Proofs.Tryz.prog 115 #[v] w fun e w'=>∃s,e=.returned (.tuple #[.pointer none,.iface 181 (.agg #[.string s])])/\Φ w'/\w'.cell? ⟨0,0,none⟩=some (.iface 264 (.agg #[.pointer (some ⟨10,177,none⟩)]))) :
  Calls Go.Proofs.Tryz.prog 89 #[v] w fun e w''=>∃w',e=.returned (.tuple #[.pointer none,.int .i64 3])/\Φ w'/\w'.heap.size<=w''.heap.size/\(∀c,c<w'.heap.size->w''.heap[c]?=w'.heap[c]?)/\w''.os=w'.os/\w''.tape=w'.tape/\w''.output=w'.output:=by
 go_enter Go.Proofs.Tryz.func89,Go.Proofs.Tryz.ntmps89
 go_wp2_with (first
  | (go_at_call 115;refine hc.mono ?_;rintro e w' ⟨s,rfl,hΦ,hg⟩;have hlt:=Lx hg)
  | (go_at_call 116;refine(KO s ⟨w'.heap.size,0,none⟩ (.string ⟨#[]⟩) (w'.alloc (.cells #[.string ⟨#[]⟩] 181)) (by rw[World.cell?_alloc_lt _ _ ⟨0,0,none⟩ hlt];exact hg) (by rw[World.cell?_alloc_at _ _ _ _ (by simp)];rfl) (by simp only[World.frozen?,heap_alloc_new];rfl)).mono ?_;rintro e w' ⟨rfl,rfl⟩))
 all_goals go_ret2
 refine⟨w',rfl,hΦ,by simp;omega,fun c hc=>?_,rfl,rfl,rfl⟩;rw[Go.heap_alloc_old _ _ (by simp;omega),Go.heap_alloc_old _ _ (by simp;omega),Go.heap_alloc_old _ _ (by simp;omega),Go.heap_alloc_old _ _ (by simp;omega),Go.heap_alloc_old _ _ hc]
noncomputable def lv(s:Sch):D:=match s.aU with
 | some x=>.ah [x.pD s,.int .i64 0]
 | none=>.ah [.aP,.int .i64 3]
theorem FR{s:Sch}{x:au}(h:s.aU=some x):lv s=.ah [x.pD s,.int .i64 0]:=by unfold lv;rw[h]
theorem FQ{s:Sch}(h:s.aU=none):lv s=.ah [.aP,.int .i64 3]:=by unfold lv;rw[h]
theorem Gi{w:World}{A:Nat->Prop}{v:Value}{x y:D}(h:Rd w A v (.ah [x,y])):∃a b,v=.tuple #[a,b]/\Rd w A a x/\Rd w A b y:=by
 cases h with
 | @ah cs _ hs hr =>
  have h2:cs.size=2:=hs;obtain⟨l⟩:=cs
  match l,h2 with
  | [a,b],_=>exact⟨a,b,rfl,hr 0 _ rfl,hr 1 _ rfl⟩
theorem Gg{w:World}{A:Nat->Prop}{a b:Value}{x y:D}(h1:Rd w A a x)(h2:Rd w A b y):Rd w A (.tuple #[a,b]) (.ah [x,y]):=by
 refine .ah rfl fun j d hj=>?_
 match j with
 | 0=>cases hj;exact h1
 | 1=>cases hj;exact h2
 | _+2=>cases hj
theorem GQ(s:Sch)(h:s.ok=true):al Go.Proofs.Tryz.prog 89 [.v (.ptr s.cells)] (.vw (lv s)):=by
 intro w A vs Fs hg hA hn hpre hdis hFs
 have hE:∀j b,¬Fs j b:=fun j b hb=>by
  have:=(hFs j b hb).2.2
  match j,this with
  | 0,_=>exact(hpre 0 _ rfl).2 b hb
 have hvs:vs=#[vs.getD 0 undef]:=by
  match vs,hn with
  | ⟨[x]⟩,_=>rfl
 have hv:Rd w A (vs.getD 0 undef) (.ptr s.cells):=(hpre 0 _ rfl).1
 have hrd:=(TB s h).2 w A vs (fun _=>undef) (fun _ _=>False) hg hA hn (fun j a hj=>by
  match j with
  | 0=>cases hj;exact .rd hv
  | _+1=>cases hj) (fun k=>Pl.dead) (fun _ _ _ h=>h) (fun _ _ _ _ h=>h.elim) fun _ _ h=>h.elim
 have fin:∀{e:Ending}{w' w'':World}{v:Value}{A':Nat->Prop},e=.returned v->w.heap.size<=w'.heap.size->(∀b,b<w.heap.size->w'.heap[b]?=w.heap[b]?)->w'.os=w.os->w'.tape=w.tape->w'.output=w.output->w'.heap.size<=w''.heap.size->(∀b,b<w'.heap.size->w''.heap[b]?=w'.heap[b]?)->w''.os=w'.os->w''.tape=w'.tape->w''.output=w'.output ->
   (∀b,A' b->A b\/(w.heap.size<=b/\b<w'.heap.size))->Rd w'' A' v (lv s) ->
   ∃(v:Value)(F:Nat->Prop)(Fs':Nat->Nat->Prop),e=.returned v/\w.heap.size<=w''.heap.size /\
   aj w'' (fun b=>A b\/(w.heap.size<=b/\b<w''.heap.size/\¬F b/\∀j,¬Fs' j b)) v (.vw (lv s)) F /\
   (∀(j:Nat)(a:Arg),[Arg.v (D.ptr s.cells)][j]?=some a->a.post w'' (fun b=>A b\/(w.heap.size<=b/\b<w''.heap.size/\¬F b/\∀j,¬Fs' j b)) (vs.getD j undef) (Fs' j)) /\
   (∀b,F b->b<w''.heap.size/\(w.heap.size<=b\/∃j,Fs j b)/\∀j,¬Fs' j b)/\(∀j b,Fs' j b->b<w''.heap.size/\(w.heap.size<=b\/∃j,Fs j b)/\j < [Arg.v (D.ptr s.cells)].length)/\(∀i j b,i≠j->Fs' i b->¬Fs' j b) /\
   (∀b,b<w.heap.size->(∀j,¬Fs j b)->w''.heap[b]?=w.heap[b]?)/\w''.os=w.os/\w''.tape=w.tape/\cF w w'':=by
  intro e w' w'' v A' he h1 h2 h3 h4 h5 g1 g2 g3 g4 g5 hA' hr;refine⟨v,fun _=>False,fun _ _=>False,he,by omega,.vw (hr.mono (fun b hb=>(hA' b hb).imp id fun hh=>⟨hh.1,by omega,id,fun _=>id⟩) fun _ _=>rfl),fun j a hj=>?_,fun _ h=>h.elim,fun _ _ h=>h.elim,fun _ _ _ _ h=>h.elim,fun b hb _=>(g2 b (by omega)).trans (h2 b hb),g3.trans h3,g4.trans h4,ye (g5.trans h5)⟩
  match j with
  | 0=>cases hj;exact fun _ h=>h
  | _+1=>cases hj
 rw[hvs] at hrd
 conv=>arg 3;rw[hvs]
 cases hp:s.aU with
 | some x =>
  refine(RH _ w (fun a w'=>w.heap.size<=w'.heap.size/\(∀b,b<w.heap.size->w'.heap[b]?=w.heap[b]?)/\w'.os=w.os/\w'.tape=w.tape/\w'.output=w.output/\Rd w' (fun b=>A b\/(w.heap.size<=b/\b<w'.heap.size)) (.pointer (some a)) (x.pD s)) (hrd.mono ?_)).mono ?_
  ·rintro e w' ⟨rc,gs',v,F,gv',Fs',⟨rfl,l,rfl,hq⟩,rfl,hsz,hc,_,_,_,_,_,_,_,hsame,hos,htape,hout⟩
   rcases hq with⟨y,rfl,hy⟩ | ⟨m,rfl,hno⟩
   rotate_left
   ·rw[hp] at hno;cases hno
   obtain rfl:y=x:=by rw[hp] at hy;injection hy with hy;exact hy.symm
   obtain⟨a,b,rfl,h1,h2⟩:=Gi (nu hc ⟨trivial,trivial,trivial⟩);cases h2
   obtain⟨q,rfl⟩:∃q,a=.pointer (some q):=by
    unfold au.pD at h1;cases h1;exact⟨_,rfl⟩
   exact⟨q,rfl,hsz,fun b hb=>hsame b hb fun _ h=>h,hos,htape,hout.1,h1.mono (fun b hb=>hb.imp id fun hh=>⟨hh.1,hh.2.1⟩) fun _ _=>rfl⟩
  ·rintro e w'' ⟨a,w',he,⟨h1,h2,h3,h4,h5,h6⟩,t,ty,rfl⟩
   refine fin (w':=w') he h1 h2 h3 h4 h5 (by simp) (fun b hb=>Go.heap_alloc_old _ _ hb) rfl rfl rfl (fun _ h=>h) ?_;unfold lv;rw[hp];exact Gg (h6.mono (fun _ h=>h) fun b hb=>Go.heap_alloc_old _ _ (hb.elim (fun ha=>by have:=hA b ha;omega) fun hh=>hh.2)) (.int (nX (k:=.i64) (n:=0) rfl))
 | none =>
  refine(RG _ w (fun w'=>w.heap.size<=w'.heap.size/\(∀b,b<w.heap.size->w'.heap[b]?=w.heap[b]?)/\w'.os=w.os/\w'.tape=w.tape/\w'.output=w.output) (hrd.mono ?_)).mono ?_
  ·rintro e w' ⟨rc,gs',v,F,gv',Fs',⟨rfl,l,rfl,hq⟩,rfl,hsz,hc,_,_,_,_,_,_,_,hsame,hos,htape,hout⟩
   rcases hq with⟨y,rfl,hy⟩ | ⟨m,rfl,_⟩
   ·rw[hp] at hy;cases hy
   obtain⟨a,b,rfl,h1,h2⟩:=Gi (nu hc ⟨trivial,trivial,trivial⟩);cases h1
   obtain⟨q,rfl⟩:∃q,b=.iface 181 (.agg #[.string q]):=by
    cases h2 with
    | bp h2 =>
     cases h2 with
     | @agg cs _ hs hr =>
      have h3:cs.size=1:=hs;obtain⟨l⟩:=cs
      match l,h3 with
      | [u],_ =>
       have:=hr 0 _ rfl;cases this;exact⟨_,rfl⟩
   refine⟨q,rfl,⟨hsz,fun b hb=>hsame b hb fun _ h=>h,hos,htape,hout.1⟩,?_⟩;rw[cell_of_heap (hsame 0 (hA 0 hg.Ds.2) fun _ h=>h)];exact hg.Ds.1
  ·rintro e w'' ⟨w',he,⟨h1,h2,h3,h4,h5⟩,g1,g2,g3,g4,g5⟩
   refine fin (w':=w') (A':=fun _=>False) he h1 h2 h3 h4 h5 g1 g2 g3 g4 g5 (fun _ h=>h.elim) ?_;unfold lv;rw[hp];exact Gg .aP (.int (nX (k:=.i64) (n:=3) rfl))
end Go.D3
namespace Go.D3
open Go
set_option maxHeartbeats 4000000
set_option maxRecDepth 100000
theorem Pc(o:Option Int):(ic o).ba=true:=by cases o<;>rfl
def zX:List Nat:=[0,2,3,4,5,6,62,63,64]
def HA:Sl:=ae Go.Proofs.Tryz.types Go.Proofs.Tryz.f49 zX []
theorem Pu:aD Go.Proofs.Tryz.prog Go.Proofs.Tryz.f49 zX HA 1=true:=by decide +kernel
theorem mH(m:Smp):al Go.Proofs.Tryz.prog 49 [.v (.ptr m.cells)] (.bool m.okB):=by
 refine fD fun hw=>?_
 simp only[dj,Smp.cells,D.dx,gC,fH] at hw;refine aC Go.Proofs.Tryz.func49 Pu ?_;unfold HA ae zX;simp only[go_sem];refine gY (bs:=[_]) (GK m.src) rfl ⟨.inr ⟨5,_,rfl,rfl⟩,trivial⟩ (.inl rfl) ?_;simp only[go_sem];refine vX (bs:=[_]) (fun _=>GK m.av) rfl ⟨.inr ⟨5,_,rfl,rfl⟩,trivial⟩ (fun h=>h) (.inl rfl) ?_;simp only[go_sem];refine⟨(fun h=>by simp only[Bool.not_eq_false'] at h|-;exact h),(fun h=>by simp only[Bool.or_eq_false_iff,Bool.and_eq_true,Bool.not_eq_false'] at h|-;exact h),?_⟩;refine bt (fun h=>qc m.av.nd m.aX ?_) rfl (fun h=>h) (.inl rfl) ?_
 ·simp only[Bool.and_eq_true] at h
  exact(fg (eB h.1.2).1).n0
 simp only[go_sem];refine⟨(fun h=>by simp only[Bool.or_eq_false_iff,Bool.and_eq_true,Bool.not_eq_true',Bool.not_eq_false'] at h|-;exact h),(fun h=>by simp only[Bool.or_eq_false_iff,Bool.and_eq_true,Bool.not_eq_true',Bool.not_eq_false'] at h|-;exact h),fun h1=>?_,fun h1=>?_⟩
 ·cases hb:m.okB with
  | false=>rfl
  | true =>
   simp only[Smp.okB,Bool.and_eq_true,beq_iff_eq] at hb;obtain⟨⟨⟨⟨⟨b1,b2⟩,b3⟩,b4⟩,b5⟩,_⟩:=hb;rw[b1,b2,b3,b4,b5] at h1;simp at h1
 simp only[Bool.or_eq_false_iff,Bool.not_eq_false',bne_eq_false_iff_eq] at h1;obtain⟨⟨⟨⟨b1,b2⟩,b3⟩,b4⟩,b5⟩:=h1;have hss:=fg (eB b1).1;have hts:=fg (eB b2).1;have hto:=hss.to;have hel:m.aL.length=m.src.fr.length:=by omega
 have hok:m.okB=cm m.aL.length m.gH:=by
  unfold Smp.okB;rw[b1,b2,b3,b4,hel];simp
 refine aJ [2,3,4,5] (fun(e:Nat)=>[(8,.int .i64 e)]) (fun e=>e<=m.aL.length/\cm e m.gH=true) (fun e=>m.aL.length-e) 0 (by simp only[go_sem];rfl) ⟨Nat.zero_le _,rfl⟩ rfl ?_;rintro e ⟨he,ha⟩;simp only[go_sem];refine⟨fun h2=>⟨h2,?_⟩,fun h2=>?_⟩
 ·refine gY (bs:=[_,_]) (mJ m.av (m.aL.getD e Pth.zero) hts.to hts.n0) rfl ⟨.inr ⟨5,_,rfl,rfl⟩,.inl rfl,trivial⟩ (.inl (Pc _)) ?_
  have hfr:=fP hss.fr (show e<m.src.fr.length by omega);have htr:=fP hss.vf (show e<m.src.to.length by omega);have hwe:=aH h2 (show m.aL.length<=maxLen by have:=hss.f8;simp only[maxLen];omega);have hstop:m.gH e=false->false=m.okB:=fun hx=>by rw[hok,nn h2 hx]
  cases hE:m.av.aB (m.aL.getD e Pth.zero) with
  | none =>
   simp only[ic];simp only[go_sem];exact hstop (by unfold Smp.gH;rw[hE];simp)
  | some y =>
   simp only[ic];simp only[go_sem];refine⟨by omega,⟨hfr.1,by omega⟩,fun h=>⟨h,by omega⟩,fun h=>⟨h,htr.1,by omega⟩,fun h=>by rw[h];rfl,fun h=>hstop ?_,fun h=>⟨e+1,⟨h2,jP ha ?_⟩,by omega,by rw[hwe]⟩⟩
   ·unfold Smp.gH
    rw[hE];simp only[Bool.or_eq_true,bne_iff_ne] at h;simp only[Bool.and_eq_false_iff,beq_eq_false_iff_ne,ne_eq,Option.some.injEq];exact h
   ·unfold Smp.gH
    rw[hE];simp only[Bool.or_eq_false_iff,bne_eq_false_iff_eq] at h;rw[h.1,h.2];simp
 ·rw[hok,show m.aL.length=e by omega,ha]
def dR(m:Smp)(a b:au):D:=.ptr [.ptr m.cells,a.pD m.src,b.pD m.av]
noncomputable def eA(m:Smp):D:=match m.src.aU with
 | none=>.ah [.aP,.int .i64 3]
 | some a=>match m.av.aU with
  | none=>.ah [.aP,.int .i64 3]
  | some b=>.ah [dR m a b,.int .i64 0]
theorem FE{s:Sch}{x:au}:(x.pD s).strip=x.pD s:=by
 show D.ptr [(D.ptr s.cells).strip,_,(ints x.c.fr).strip,(ints x.c.to).strip,(ints x.c.aN).strip,(aW x.c.co).strip,(ints x.ed).strip,(U Pth.d Pth.zero x.ls).strip]=_;rw[show(D.ptr s.cells).strip=D.ptr s.cells from zg,oK,qn,dh,dh,dh,dh];rfl
theorem U5{m:Smp}:(D.ptr m.cells).strip=.ptr m.cells:=by
 show D.ptr [_,(ints m.src.fr).strip,(ints m.src.to).strip,(U Pth.d Pth.zero m.src.lf).strip,(U Pth.d Pth.zero m.src.rt).strip,_,(ints m.av.fr).strip,(ints m.av.to).strip,(U Pth.d Pth.zero m.av.lf).strip,(U Pth.d Pth.zero m.av.rt).strip,(ints m.aX).strip,(U Pth.d Pth.zero m.aL).strip]=_;simp only[dh,oK];rfl
theorem Oa{m:Smp}{a b:au}:(dR m a b).strip=dR m a b:=by
 show D.ptr [(D.ptr m.cells).strip,(a.pD m.src).strip,(b.pD m.av).strip]=_;rw[U5,FE,FE];rfl
def sf:List Nat:=[0,2,3,4,5,6]
def uO:Sl:=ae Go.Proofs.Tryz.types Go.Proofs.Tryz.f50 sf []
theorem xI:aD Go.Proofs.Tryz.prog Go.Proofs.Tryz.f50 sf uO 1=true:=by decide +kernel
theorem qb(m:Smp)(hs:m.src.ok=true)(ht:m.av.ok=true):al Go.Proofs.Tryz.prog 50 [.v (.ptr m.cells)] (.vw (eA m)):=by
 have h1:=GQ m.src hs;have h2:=GQ m.av ht;cases ha:m.src.aU with
 | none =>
  rw[FQ ha] at h1;rw[show eA m=.ah [.aP,.int .i64 3] by unfold eA;rw[ha]];refine al.vo (xs:=[_]) (res:=.ah [.aP,.int .i64 3]) ?_;show al _ _ [.v (.ptr m.cells)] _;refine aC Go.Proofs.Tryz.func50 xI ?_;unfold uO ae sf;simp only[go_sem];refine gY (bs:=[_]) h1 rfl ⟨.inr ⟨5,_,rfl,rfl⟩,trivial⟩ (.inr trivial) ?_;simp only[go_sem];exact fun h=>by cases h
 | some a =>
  rw[FR ha] at h1;cases hb:m.av.aU with
  | none =>
   rw[FQ hb] at h2;rw[show eA m=.ah [.aP,.int .i64 3] by unfold eA;rw[ha,hb]];refine al.vo (xs:=[_]) (res:=.ah [.aP,.int .i64 3]) ?_;show al _ _ [.v (.ptr m.cells)] _;refine aC Go.Proofs.Tryz.func50 xI ?_;unfold uO ae sf;simp only[go_sem];refine gY (bs:=[_]) h1 rfl ⟨.inr ⟨5,_,rfl,rfl⟩,trivial⟩ (.inr trivial) ?_;simp only[go_sem,au.pD];refine⟨fun h=>(by cases h),fun _=>?_⟩;refine gY (bs:=[_]) h2 rfl ⟨.inr ⟨5,_,rfl,rfl⟩,trivial⟩ (.inr trivial) ?_;simp only[go_sem];exact fun h=>by cases h
  | some b =>
   rw[FR hb] at h2
   have aI:(D.ah [.vw (dR m a b),.int .i64 0]).strip=.ah [dR m a b,.int .i64 0]:=by
    show D.ah [(match(dR m a b).strip with | .agg l=>D.vw (.agg l) | d'=>d'),_]=_;rw[Oa];rfl
   rw[show eA m=.ah [dR m a b,.int .i64 0] by unfold eA;rw[ha,hb],<-aI];refine al.vo (xs:=[_]) (res:=.ah [.vw (dR m a b),.int .i64 0]) ?_;show al _ _ [.v (.ptr m.cells)] _;refine aC Go.Proofs.Tryz.func50 xI ?_;unfold uO ae sf;simp only[go_sem];refine gY (bs:=[_]) h1 rfl ⟨.inr ⟨5,_,rfl,rfl⟩,trivial⟩ (.inr trivial) ?_;simp only[go_sem,au.pD];refine⟨fun h=>(by cases h),fun _=>?_⟩;refine gY (bs:=[_]) h2 rfl ⟨.inr ⟨5,_,rfl,rfl⟩,trivial⟩ (.inr trivial) ?_;simp only[go_sem,au.pD];exact⟨fun h=>(by cases h),fun _=>rfl⟩
end Go.D3
