/- CONTRACTS: what the good part of a journal tells, the program's side: walked, for a pointer stands in a tuple. -/
import Derived.Test.YtpjbamibcngihaaGreatDoorGAV
import Derived.Test.YtpjbamibcngihaaGreatDoorChecked
import Derived.Tactics
import Derived.Tactics2
import Derived.Defers
import Derived.Laws.Pointers
import Derived.RegionTactic
import Derived.RegionCalls
import Derived.Laws.NewBlocks
import Derived.Test.YtpjbamibcngihaaGreatDoorGAU
namespace Go.D3
open Go
set_option maxRecDepth 100000
set_option maxHeartbeats 4000000
theorem Xj(t:List UInt8)(ht:t.length<=1048576):bF Go.Proofs.Tryz.prog wE (fun _=>False) ⟨fun _ _=>False,rJ t⟩ [.str t,.aw 11 [(0,0)],.bool false,.aw 10 [(0,0)],.dead,.dead,.dead,.dead,.dead,.box (cM ⟨0,[],[],[],[]⟩ [] [] 0),.box [.int .i64 0],.box [.aw 9 [(0,0)]]]:=by
 unfold wE;simp only[go_sem];refine Xi t ht fun s n b hb hp=>?_
 unfold cM;simp only[go_sem];refine⟨fun h=>?_,fun h=>?_⟩
 ·have hn:cL t=none:=by
   cases hh:cL t with
   | none=>rfl
   | some p=>rw[hb,hh] at h;cases h
  unfold rJ bn;rw[hn];exact⟨s,n,_,_,_,_,_,rfl⟩
 have hs:∃p,cL t=some p:=by
  cases hh:cL t with
  | none=>rw[hb,hh] at h;cases h
  | some p=>exact⟨p,rfl⟩
 obtain⟨p,hh⟩:=hs;obtain⟨rfl,rfl⟩:=hp p hh;obtain⟨hok,hpl⟩:=xt hh;have hso:=eA (dM hok).1;have hb':b=true:=by rw[hb,hh];rfl
 subst hb';clear hb hp h;refine Xh t p.1 hso ?_;unfold cM;simp only[go_sem];refine aE [4,5,6,7,8] (fun(H:Hs)=>[(9,.box (cM p.1 H.dt H.tx 0)),(10,.box [.int .i64 H.gd])]) (fun H=>fU p.1 t H/\dh p.1 t H.gd [] H=dh p.1 t p.2 [] ⟨[bW p.1],[],p.2⟩) (fun H=>t.length-H.gd) ⟨[bW p.1],[],p.2⟩ (by simp only[go_sem];rfl) ⟨xy hso hpl,rfl⟩ rfl ?_;rintro H ⟨hH,hr⟩;have hgl:=hH.gl;have hdl:=hH.dl;have h6:=hH.t6;unfold cM;simp only[go_sem];refine av (Uv t H.gd (by omega) hgl) rfl (.inl (W4 _)) ?_;have hf:=vE (t:=t) _ H.gd [] (Nat.le_refl _) (by decide);have hrx:=pY (s:=p.1) (t:=t) (H:=H) _ H.gd [] (Nat.le_refl _)
 have stop:dh p.1 t H.gd [] H=H->∀x y z u v,rJ t [.str t,.aw 11 [(0,0)],.bool true,.aw 10 [(0,0)],x,y,z,u,v,.box (cM p.1 H.dt H.tx 0),.box [.int .i64 H.gd],.box [.aw 9 [(0,0)]]]:=fun hg x y z u v=>by
  have e:bn t=some (p.1,H):=by unfold bn;rw[hh];show some (p.1,_)=_;rw[<-hr,hg]
  unfold rJ;rw[e];exact⟨_,_,_,_,_,rfl⟩
 cases hx:gO t H.gd [] with
 | none =>
  rw[hx] at hrx;simp only[sa];simp only[go_sem];exact stop hrx _ _ _ _ _
 | some q =>
  obtain⟨l,e⟩:=q;rw[hx] at hrx;obtain⟨f1,f2,f3⟩:=hf l e hx;simp only[sa];simp only[go_sem];refine Xg t p.1 H l hok hH.last (by omega) (by omega) ?_;unfold cM;simp only[go_sem];refine⟨fun h=>stop ?_ _ _ _ _ _,fun h=>?_⟩
  ·have hg:ca p.1 H.last l=none:=by
    unfold ca;cases hd:af.all p.1 H.last l with
    | none=>rfl
    | some d =>
     rw[hd] at h;have h:d.dP p.1=false:=by simpa[ig] using h
     rw[Option.bind_some,h,Bool.and_false];rfl
   rw[hrx];simp only[hg]
  ·obtain⟨d,hd,hw⟩:∃d,af.all p.1 H.last l=some d/\d.dP p.1=true:=by
    cases hd:af.all p.1 H.last l with
    | none=>rw[hd] at h;cases h
    | some d =>
     rw[hd] at h;exact⟨d,rfl,by simpa[ig] using h⟩
   have hg:ca p.1 H.last l=some d:=by unfold ca;rw[hd,Option.bind_some,hw,decide_eq_true f1];rfl
   have ep:ig p.1 (af.all p.1 H.last l)=(d,true):=by rw[hd,ig,hw]
   rw[ep];refine Xk t p.1 H l d (by omega) ?_;refine Xl (E:=⟨fun _ _=>False,fun _=>False⟩) t p.1 H l (H.dt++[d]) (by omega) ?_;unfold cM;simp only[go_sem];exact⟨H.push d l e,⟨hH.push hso hg f2 f3,by rw[<-hr,hrx];simp only[hg];rfl⟩,by show t.length-e<t.length-H.gd;omega,rfl⟩
end Go.D3
namespace Go.D3
open Go
set_option maxRecDepth 100000
theorem TE(b0 b1 b2:Nat)(n:Int)(x:Value)(u:FrameMode)(w:World)(h0:w.cell? ⟨b0,0,none⟩=some (.pointer (some ⟨b1,0,none⟩)))(h2:w.cell? ⟨b2,0,none⟩=some (.int .i64 n))(h1:w.cell? ⟨b1,7,none⟩=some x)(hz:w.frozen? ⟨b1,7,none⟩=false) :
  CallsD Go.Proofs.Tryz.prog 85 #[.pointer (some ⟨b2,0,none⟩),.pointer (some ⟨b0,0,none⟩)] u w fun e u' w'=>u'=u/\(e=.returned (.tuple #[])/\w'=w.setCell ⟨b1,7,none⟩ (.int .i64 n)):=by
 go_enter_d Go.Proofs.Tryz.func85,Go.Proofs.Tryz.ntmps85
 go_wp2
 go_end0
 exact⟨rfl,rfl⟩
end Go.D3
namespace Go.D3
open Go
set_option maxRecDepth 100000
theorem LU(w:World):Sem.run Go.Proofs.Tryz.prog (Instr.build 75 #[]) w=.ok (.agg #[.int .i64 0,.slice none 0 0,.slice none 0 0,.slice none 0 0,.slice none 0 0,.slice none 0 0,.slice none 0 0,.int .i64 0]) w:=by
 first | rfl | kernel_rfl | (simp[go_sem];rfl) | (go_simp;rfl)
def mb:Array Value:=#[.int .i64 0,.slice none 0 0,.slice none 0 0,.slice none 0 0,.slice none 0 0,.slice none 0 0,.slice none 0 0,.int .i64 0]
theorem LR(w:World):Sem.run Go.Proofs.Tryz.prog (Instr.box 75 (.agg #[.int .i64 0,.slice none 0 0,.slice none 0 0,.slice none 0 0,.slice none 0 0,.slice none 0 0,.slice none 0 0,.int .i64 0])) w=.ok (.pointer (some ⟨w.heap.size,0,none⟩)) (w.alloc (.cells #[.int .i64 0,.slice none 0 0,.slice none 0 0,.slice none 0 0,.slice none 0 0,.slice none 0 0,.slice none 0 0,.int .i64 0] 75)):=by
 first | rfl | kernel_rfl | (simp[go_sem];rfl) | (go_simp;rfl)
theorem Pg(w:World)(x y:Value):Sem.run Go.Proofs.Tryz.prog (Instr.makeFunc (.func 85) #[] #[x,y]) w=.ok (.func (.func 85) #[] #[x,y]) w:=by
 first | rfl | kernel_rfl | (simp[go_sem];rfl) | (go_simp;rfl)
theorem W1(w:World):((w.alloc (.cells #[.pointer none] 70)).alloc (.cells mb 75)).cell? ⟨w.heap.size,0,none⟩=some (.pointer none):=by
 rw[World.cell?_alloc_past _ _ _ (show w.heap.size<(w.heap.push _).size by rw[Array.size_push];omega),World.cell?_alloc_at _ _ _ _ rfl];rfl
theorem W2(w:World):((w.alloc (.cells #[.pointer none] 70)).alloc (.cells mb 75)).frozen? ⟨w.heap.size,0,none⟩=false:=by
 rw[World.frozen?_alloc_past _ _ _ (show w.heap.size<(w.heap.push _).size by rw[Array.size_push];omega),World.frozen?_alloc_at _ _ _ _ rfl]
end Go.D3
namespace Go.D3
open Go
set_option maxRecDepth 100000
def pB(b:Nat):Value:=.pointer (some ⟨b,0,none⟩)
def vI(v:Value)(n:Nat):Nat->Value
 | 0=>v
 | 1=>pB n
 | 2=>.bool false
 | 3=>pB (n+2)
 | 9=>pB (n+1)
 | 10=>pB (n+2)
 | 11=>pB n
 | _=>undef
def qT(n:Nat)(k b:Nat):Prop:=(k=9/\b=n+1)\/(k=10/\b=n+2)\/(k=11/\b=n)
def lU(v:Value)(w:World)(A:Nat->Prop)(hA:∀b,A b->b<w.heap.size)(hg:eX w A):Ctx:=⟨w,fun _=>False,A,vI v w.heap.size,fun b hb=>⟨hA b hb,fun h=>h⟩,hg,[⟨.fn (.func 85) #[pB (w.heap.size+2),pB w.heap.size],#[]⟩]⟩
def j7(t:List UInt8):List D:=[.str t,.aw 11 [(0,0)],.bool false,.aw 10 [(0,0)],.dead,.dead,.dead,.dead,.dead,.box (cM ⟨0,[],[],[],[]⟩ [] [] 0),.box [.int .i64 0],.box [.aw 9 [(0,0)]]]
def vA:List Nat:=[0,2,3,4,5,6,7,8,9]
theorem sY(t:List UInt8)(k:Nat):(⟨j7 t,0,[]⟩:St).cont k=nth (j7 t) k:=by
 rw[qH];by_cases hk:k<1000
 ·rw[if_pos hk]
 ·rw[if_neg hk,gj]
  show 12<=k;omega
structure W3(w W:World):Prop where
 sz:W.heap.size=w.heap.size+3
 h0:W.heap[w.heap.size]?=some (.cells #[pB (w.heap.size+1)] 70 (0,0))
 h1:W.heap[w.heap.size+1]?=some (.cells mb 75 (0,0))
 h2:W.heap[w.heap.size+2]?=some (.cells #[.int .i64 0] 3 (0,0))
 old:∀b,b<w.heap.size->W.heap[b]?=w.heap[b]?
 os:W.os=w.os
 tape:W.tape=w.tape
 output:W.output=w.output
theorem LP{w W:World}{A:Nat->Prop}{t:List UInt8}{v:Value}{hA:∀b,A b->b<w.heap.size}{hg:eX w A}{T:Array Value}(hW:W3 w W)(hv:Rd w A v (.str t))(hs:T.size=77)(h0:T.getD 0 undef=v)(h2:T.getD 2 undef=pB w.heap.size)(h3:T.getD 3 undef=.bool false)(h4:T.getD 4 undef=pB (w.heap.size+2))
  (h5:T.getD 5 undef=undef) (h6:T.getD 6 undef=undef) (h7:T.getD 7 undef=undef) (h8:T.getD 8 undef=undef) (h9:T.getD 9 undef=undef) :
  Bm (lU v w A hA hg) 77 vA (j7 t) { tmps:=T,defers:=(lU v w A hA hg).qL } W:=by
 refine⟨⟨vI v w.heap.size,qT w.heap.size,fun _=>False,?_,?_,fun i t hi _=>by simp at hi,fun _ _ _=>rfl⟩,rfl,fun j hj=>by simp at hj,hs,rfl⟩
 ·have aO:∀b,A b->aq (lU v w A hA hg) (qT w.heap.size) (fun _=>False) W b:=fun b hb=>by
   have:=hA b hb;have:=hW.sz;refine⟨⟨by omega,fun _=>hb⟩,fun h=>h,fun k hk=>?_⟩;unfold qT at hk;omega
  have c9:(⟨j7 t,0,[]⟩:St).cont 9=.box (cM ⟨0,[],[],[],[]⟩ [] [] 0):=sY t 9;have c10:(⟨j7 t,0,[]⟩:St).cont 10=.box [.int .i64 0]:=sY t 10;have c11:(⟨j7 t,0,[]⟩:St).cont 11=.box [.aw 9 [(0,0)]]:=sY t 11
  have aw:∀(k b:Nat)(l:List D),(⟨j7 t,0,[]⟩:St).cont k=.box l->0<l.length->vI v w.heap.size k=pB b->kM W (⟨j7 t,0,[]⟩:St).cont (vI v w.heap.size) (pB b) k [(0,0)]:=fun k b l hc hl hv=>by
   refine⟨?_,?_⟩
   ·rw[hc]
    exact⟨rfl,hl,trivial⟩
   ·rw[hc,hv]
    exact⟨_,rfl,rfl⟩
  refine⟨fun k=>?_,fun i j hij b hi hj=>?_,fun _ _ _ h=>h,fun k hk b hb=>?_,fun k b hb=>?_,fun _ h=>h.elim,?_,fun b hb _=>hW.old b hb,hW.os,hW.tape,hW.output⟩
  ·rw[sY]
   match k with
   | 0=>exact .rd (hv.mono aO fun b hb=>hW.old b (hA b hb))
   | 1=>exact .ref (aw 11 _ _ c11 (by decide) rfl)
   | 2=>exact .rd .bool
   | 3=>exact .ref (aw 10 _ _ c10 (by decide) rfl)
   | 4=>exact Pl.dead
   | 5=>exact Pl.dead
   | 6=>exact Pl.dead
   | 7=>exact Pl.dead
   | 8=>exact Pl.dead
   | 9 =>
    refine⟨by decide,_,mb,75,fun _ _=>False,rfl,hW.h1,rfl,fun j c hj=>?_,.inl ⟨rfl,rfl⟩,fun _ _ h=>h.elim,fun _ _ _ _ h=>h.elim⟩
    match j with
    | 0=>cases hj;exact .rd (.int (ku (k:=.i64) (n:=0) rfl))
    | 1=>cases hj;exact .nil
    | 2=>cases hj;exact .nil
    | 3=>cases hj;exact .nil
    | 4=>cases hj;exact .nil
    | 5=>cases hj;exact .nil
    | 6=>cases hj;exact .nil
    | 7=>cases hj;exact .rd (.int (ku (k:=.i64) (n:=0) rfl))
    | _+8=>cases hj
   | 10 =>
    refine⟨by decide,_,#[.int .i64 0],3,fun _ _=>False,rfl,hW.h2,rfl,fun j c hj=>?_,.inr (.inl ⟨rfl,rfl⟩),fun _ _ h=>h.elim,fun _ _ _ _ h=>h.elim⟩
    match j with
    | 0=>cases hj;exact .rd (.int (ku (k:=.i64) (n:=0) rfl))
    | _+1=>cases hj
   | 11 =>
    refine⟨by decide,_,#[pB (w.heap.size+1)],70,fun _ _=>False,rfl,hW.h0,rfl,fun j c hj=>?_,.inr (.inr ⟨rfl,rfl⟩),fun _ _ h=>h.elim,fun _ _ _ _ h=>h.elim⟩
    match j with
    | 0=>cases hj;exact Pl.ref (aw 9 _ _ c9 (by decide) rfl)
    | _+1=>cases hj
   | k+12 =>
    rw[gj (j7 t) (k+12) (by show 12<=k+12;omega)];exact Pl.dead
  ·unfold qT at hi hj;omega
  ·rcases hb with⟨rfl,_⟩ | ⟨rfl,_⟩ | ⟨rfl,_⟩
   ·rw[c9] at hk;cases hk
   ·rw[c10] at hk;cases hk
   ·rw[c11] at hk;cases hk
  ·have:=hW.sz
   unfold qT at hb;exact⟨by omega,.inr (by show w.heap.size<=b;omega)⟩
  ·have:=hW.sz
   show w.heap.size<=_;omega
 ·intro j t hj _
  match j with
  | 0=>cases hj;exact h0
  | 1=>cases hj;exact h2
  | 2=>cases hj;exact h3
  | 3=>cases hj;exact h4
  | 4=>cases hj;exact h5
  | 5=>cases hj;exact h6
  | 6=>cases hj;exact h7
  | 7=>cases hj;exact h8
  | 8=>cases hj;exact h9
  | _+9=>cases hj
end Go.D3
namespace Go.D3
open Go
set_option maxRecDepth 100000
def EM(s:aa)(dt:List af)(tx:List (List ah))(g:Int):List D:=[.int .i64 s.nd,ints s.fr,ints s.to,ae U.d U.zero s.lf,ae U.d U.zero s.rt,ae af.d af.zero dt,ae (ae ah.d ah.zero) [] tx,.int .i64 g]
def D6(w:World)(A:Nat->Prop)(b:Bool)(L:List D)(e:Ending)(w2:World):Prop:=∃(v:Value)(F:Nat->Prop),e=.returned v/\w.heap.size<=w2.heap.size/\an w2 (fun x=>A x\/(w.heap.size<=x/\x<w2.heap.size/\¬F x)) v (.au [.ptr L,.bool b]) F /\
 (∀x,F x->x<w2.heap.size/\w.heap.size<=x)/\(∀x,x<w.heap.size->w2.heap[x]?=w.heap[x]?)/\w2.os=w.os/\w2.tape=w.tape/\w2.output=w.output
theorem yL{a b:Nat}(h:pB a=pB b):a=b:=by
 unfold pB at h;simpa using h
theorem Hc{w w':World}{A:Nat->Prop}{t:List UInt8}{v:Value}{hA:∀b,A b->b<w.heap.size}{hg:eX w A}{a:Act}{R:Ending->World->Prop}{b:Bool}{g:Int}{x y z u v0:D}{s:aa}{dt:List af}{tx:List (List ah)}
  (hB:Bm (lU v w A hA hg) 77 vA [.str t,.aw 11 [(0,0)],.bool b,.aw 10 [(0,0)],x,y,z,u,v0,.box (cM s dt tx 0),.box [.int .i64 g],.box [.aw 9 [(0,0)]]] a w') (hR:∀e w2,D6 w A b (EM s dt tx g) e w2->R e w2) :
  Leaves Go.Proofs.Tryz.prog Go.Proofs.Tryz.f59 a.tmps R a.defers .returning w':=by
 rw[hB.defers];obtain⟨vl,fp,G,hp,htr,_,hgh⟩:=hB.ex;have g9:vl 9=pB (w.heap.size+1):=by exact hgh 9 (Nat.le_refl _) (by decide)
 have g10:vl 10=pB (w.heap.size+2):=by exact hgh 10 (by decide) (by decide)
 have g11:vl 11=pB w.heap.size:=by exact hgh 11 (by decide) (by decide)
 obtain⟨_,b9,cs9,e9,Fs9,hv9,hb9,hs9,hc9,hF9,hf9,hd9⟩:=(show oN w' _ _ (vl 9) (fp 9) (cM s dt tx 0) from hp.ok 9);obtain⟨_,b10,cs10,e10,Fs10,hv10,hb10,hs10,hc10,hF10,hf10,hd10⟩:=(show oN w' _ _ (vl 10) (fp 10) [.int .i64 g] from hp.ok 10);obtain⟨_,b11,cs11,e11,Fs11,hv11,hb11,hs11,hc11,hF11,hf11,hd11⟩:=(show oN w' _ _ (vl 11) (fp 11) [.aw 9 [(0,0)]] from hp.ok 11);rw[g9] at hv9;rw[g10] at hv10;rw[g11] at hv11;obtain rfl:=yL hv9;obtain rfl:=yL hv10;obtain rfl:=yL hv11;have hnn:w.heap.size<=w'.heap.size:=by exact hp.size
 have aw:∀{val:Value}{k bb:Nat}{l:List D},kM w' (⟨[.str t,.aw 11 [(0,0)],.bool b,.aw 10 [(0,0)],x,y,z,u,v0,.box (cM s dt tx 0),.box [.int .i64 g],.box [.aw 9 [(0,0)]]],0,[]⟩:St).cont vl val k [(0,0)]->(⟨[.str t,.aw 11 [(0,0)],.bool b,.aw 10 [(0,0)],x,y,z,u,v0,.box (cM s dt tx 0),.box [.int .i64 g],.box [.aw 9 [(0,0)]]],0,[]⟩:St).cont k=.box l->vl k=pB bb->val=pB bb:=fun {val k bb l} h h1 h2=>by
  obtain⟨_,ad,h3,h4⟩:=h;rw[h1,h2] at h3;rw[h4];have:aH w' (pB bb) (.box l) [(0,0)]=some ⟨bb,0,none⟩:=rfl;rw[this] at h3;cases h3;rfl
 have t2:a.tmps.getD 2 undef=pB w.heap.size:=(htr 1 2 rfl rfl).trans (aw (fR (hp.ok 1)) rfl g11);have t3:a.tmps.getD 3 undef=.bool b:=(htr 2 3 rfl rfl).trans (pl_bool (hp.ok 2));have k0:cs11.getD 0 undef=pB (w.heap.size+1):=aw (fR (hc11 0 _ rfl)) rfl g9;have k2:cs10.getD 0 undef=.int .i64 g/\IntKind.i64.has g:=ey (hc10 0 _ rfl);have c0:w'.cell? ⟨w.heap.size,0,none⟩=some (pB (w.heap.size+1)):=by rw[<-k0];exact ee hb11 (by rw[hs11];decide)
 have c2:w'.cell? ⟨w.heap.size+2,0,none⟩=some (.int .i64 g):=by rw[<-k2.1];exact ee hb10 (by rw[hs10];exact Nat.zero_lt_one)
 have c1:w'.cell? ⟨w.heap.size+1,7,none⟩=some (cs9.getD 7 undef):=ee hb9 (by rw[hs9];show 7<8;decide);have hz:w'.frozen? ⟨w.heap.size+1,7,none⟩=false:=by simp[World.frozen?,hb9]
 refine leaves_cons (f:=85) (args:=#[pB (w.heap.size+2),pB w.heap.size]) (fun h=>by cases h) ?_ (CallsD.mono (TE w.heap.size (w.heap.size+1) (w.heap.size+2) g _ .returning w' c0 c2 c1 hz) ?_)
 ·rfl
 rintro e u' w2 ⟨rfl,rfl,rfl⟩;have hr0:w'.heap.size<=(w'.setCell ⟨w.heap.size+1,7,none⟩ (.int .i64 g)).heap.size:=by simp
 have hr1:(w'.setCell ⟨w.heap.size+1,7,none⟩ (.int .i64 g)).heap.size=w'.heap.size:=by simp
 have c0':(w'.setCell ⟨w.heap.size+1,7,none⟩ (.int .i64 g)).cell? ⟨w.heap.size,0,none⟩=some (pB (w.heap.size+1)):=by
  have:=c0;simp only[World.cell?] at this|-
  rw[rT _ (by show w.heap.size≠w.heap.size+1;omega)];exact this
 have hoth:∀c,c≠w.heap.size+1->(w'.setCell ⟨w.heap.size+1,7,none⟩ (.int .i64 g)).heap[c]?=w'.heap[c]?:=fun c hc=>rT _ hc
 have hblk:=vc (j:=7) (.int .i64 g) hb9;have hos:(w'.setCell ⟨w.heap.size+1,7,none⟩ (.int .i64 g)).os=w'.os/\(w'.setCell ⟨w.heap.size+1,7,none⟩ (.int .i64 g)).tape=w'.tape/\(w'.setCell ⟨w.heap.size+1,7,none⟩ (.int .i64 g)).output=w'.output:=⟨rfl,rfl,rfl⟩;generalize(w'.setCell ⟨w.heap.size+1,7,none⟩ (.int .i64 g))=w2 at hr0 hr1 c0' hoth hblk hos;show Leaves _ _ _ _ [] .returning w2;refine⟨.tuple #[pB (w.heap.size+1),.bool b],?_,hR _ _ ⟨_,fun c=>fp 9 c,rfl,by omega,?_,fun c hc=>?_,fun c hc=>?_,?_,?_,?_⟩⟩
 ·refine zk (fn:=Go.Proofs.Tryz.f59) (vs:=[pB (w.heap.size+1),.bool b]) ?_
  show(List.mapM (mP a.tmps) [.cell 2 70,.tmp 3]).run _ _=_;simp only[List.mapM_cons,List.mapM_nil,mP,t2,t3]
  have hl:(loadVar 70 ⟨w.heap.size,0,none⟩).run Go.Proofs.Tryz.prog w2=.ok (pB (w.heap.size+1)) w2:=by
   simp[loadVar,tF (show ji Go.Proofs.Tryz.prog 70=true by decide +kernel),c0']
  simp[asAddr,pB] at hl|-
  simp[hl]
 ·refine an.au (fun j c=>j=0/\fp 9 c) rfl (fun j d hj=>?_) (fun j c hc=>hc.2) (fun i j c hij hi hj=>hij (hi.1.trans hj.1.symm))
  match j with
  | 0 =>
   cases hj
   have stb:∀c,aq (lU v w A hA hg) fp G w' c->(A c\/(w.heap.size<=c/\c<w2.heap.size/\¬fp 9 c))/\c≠w.heap.size+1:=fun c hc=>by
    refine⟨?_,fun he=>hc.2.2 9 (he▸hF9)⟩;by_cases hlt:c<w.heap.size
    ·exact .inl (hc.1.2 hlt)
    ·exact .inr ⟨by omega,by rw[hr1];exact hc.1.1,hc.2.2 9⟩
   refine an.ptr (fun j c=>j≠7/\Fs9 j c) hblk (by rw[Array.size_setIfInBounds];exact hs9) (fun j d hj=>?_) ⟨rfl,hF9⟩ (fun j c hc=>⟨(hf9 j c hc.2).1,rfl,(hf9 j c hc.2).2⟩) (fun i j c hij hi hj=>hd9 i j c hij hi.2 hj.2)
   have own:∀{i:Nat}{xx:D},i≠7->an w' (aq (lU v w A hA hg) fp G w') (cs9.getD i undef) xx (Fs9 i)->an w2 (fun c=>A c\/(w.heap.size<=c/\c<w2.heap.size/\¬fp 9 c)) ((cs9.setIfInBounds 7 (.int .i64 g)).getD i undef) xx (fun c=>i≠7/\Fs9 i c):=fun {i xx} h7 h=>by
    rw[getD_set_ne _ (Ne.symm h7)];exact h.mono (fun c hc=>(stb c hc).1) (fun c hc=>hoth c (stb c hc).2) (fun c hc=>hoth c (hf9 i c hc).1) (fun c hc=>⟨h7,hc⟩)
   match j with
   | 0 =>
    cases hj;obtain⟨e1,e2⟩:=ey (hc9 0 _ rfl);rw[getD_set_ne _ (by decide)];show an _ _ (cs9.getD 0 undef) _ _;rw[e1];exact .int e2
   | 1=>cases hj;exact own (by decide) (hc9 1 _ rfl)
   | 2=>cases hj;exact own (by decide) (hc9 2 _ rfl)
   | 3=>cases hj;exact own (by decide) (hc9 3 _ rfl)
   | 4=>cases hj;exact own (by decide) (hc9 4 _ rfl)
   | 5=>cases hj;exact own (by decide) (hc9 5 _ rfl)
   | 6=>cases hj;exact own (by decide) (hc9 6 _ rfl)
   | 7 =>
    cases hj;rw[nN _ (by rw[hs9];show 7<8;decide)];exact .int k2.2
   | _+8=>cases hj
  | 1=>cases hj;exact .bool
  | _+2=>cases hj
 ·have:=hp.lt 9 c hc
  rw[hr1];exact⟨this.1,this.2.elim (fun h=>h.elim) (fun h=>h)⟩
 ·rw[hoth c (by omega)]
  exact hp.same c hc fun h=>h
 ·rw[hos.1];exact hp.os
 ·rw[hos.2.1];exact hp.tape
 ·rw[hos.2.2];exact hp.output
end Go.D3
namespace Go.D3
open Go
set_option maxRecDepth 100000
def Hid(p:Prop):Prop:=p
theorem VG{P:Program}{r0 r1 r2 r3 rest:Code}{Q:Exit->Act->World->Prop}{a:Act}{w:World}(h:∀(X:Code)(Y:Exit->Act->World->Prop),Hid (X=rest/\Y=Q)->(Code.seq r0 (.seq r1 (.seq r2 (.seq r3 X)))).wp P Y a w):(Code.seq r0 (.seq r1 (.seq r2 (.seq r3 rest)))).wp P Q a w:=h rest Q ⟨rfl,rfl⟩
theorem Xp(w:World):W3 w (((w.alloc (Obj.cells #[Value.pointer (some { block:=w.heap.size+1,off:=0 })] 70)).alloc (Obj.cells #[.int .i64 0,.slice none 0 0,.slice none 0 0,.slice none 0 0,.slice none 0 0,.slice none 0 0,.slice none 0 0,.int .i64 0] 75)).alloc (Obj.cells #[Value.int IntKind.i64 0] 3)):=by
 have hs:∀(x:World)(ob:Obj),(x.alloc ob).heap=x.heap.push ob:=fun _ _=>rfl
 refine⟨by simp[hs],?_,?_,?_,fun b hb=>?_,rfl,rfl,rfl⟩
 ·simp only[hs,Array.getElem?_push,Array.size_push]
  rw[if_neg (by omega),if_neg (by omega),if_pos trivial];rfl
 ·simp only[hs,Array.getElem?_push,Array.size_push]
  rw[if_neg (by omega),if_pos trivial];rfl
 ·simp only[hs,Array.getElem?_push,Array.size_push]
  rw[if_pos trivial]
 ·simp only[hs,Array.getElem?_push,Array.size_push]
  rw[if_neg (by omega),if_neg (by omega),if_neg (by omega)]
theorem TF{v:Value}{w:World}{A:Nat->Prop}{t:List UInt8}{R:Ending->World->Prop}{O:List D->Prop}{c:C}(hA:∀b,A b->b<w.heap.size)(hg:eX w A)(hv:Rd w A v (.str t))
  (hfit:cE Go.Proofs.Tryz.prog 77 vA (vt 4 (Go.Proofs.Tryz.f59.body.getD .skip)) c=true) (hvc:bF Go.Proofs.Tryz.prog c (fun _=>False) ⟨fun _ _=>False,O⟩ (j7 t))
  (hO:∀a w' env,O env->Bm (lU v w A hA hg) 77 vA env a w'->Leaves Go.Proofs.Tryz.prog Go.Proofs.Tryz.f59 a.tmps R a.defers .returning w'):Calls Go.Proofs.Tryz.prog 59 #[v] w R:=by
 have h1:=LU;have h2:=LR;have h3:=Pg;have h4:∀t d o p,World.cell? { heap:=(w.alloc (Obj.cells #[Value.pointer none] 70)).heap.push (Obj.cells #[.int .i64 0,.slice none 0 0,.slice none 0 0,.slice none 0 0,.slice none 0 0,.slice none 0 0,.slice none 0 0,.int .i64 0] 75),tape:=t,drawn:=d,os:=o,output:=p } { block:=w.heap.size,off:=0 }=some (Value.pointer none):=fun _ _ _ _=>W1 w
 have h5:∀t d o p,World.frozen? { heap:=(w.alloc (Obj.cells #[Value.pointer none] 70)).heap.push (Obj.cells #[.int .i64 0,.slice none 0 0,.slice none 0 0,.slice none 0 0,.slice none 0 0,.slice none 0 0,.slice none 0 0,.int .i64 0] 75),tape:=t,drawn:=d,os:=o,output:=p } { block:=w.heap.size,off:=0 }=false:=fun _ _ _ _=>W2 w
 have hb:=fun(W:World)(hW:W3 w W)(T:Array Value)=>LP (hA:=hA) (hg:=hg) (T:=T) hW hv
 have key:Hid (∀(W:World)(T:Array Value)(ds:List Deferred),W3 w W->ds=(lU v w A hA hg).qL->T.size=77->T.getD 0 undef=v->T.getD 2 undef=pB w.heap.size->T.getD 3 undef=.bool false->T.getD 4 undef=pB (w.heap.size+2)->T.getD 5 undef=undef->T.getD 6 undef=undef->T.getD 7 undef=undef->T.getD 8 undef=undef->T.getD 9 undef=undef ->
   (vt 4 (Go.Proofs.Tryz.f59.body.getD .skip)).wp Go.Proofs.Tryz.prog (bodyPostD Go.Proofs.Tryz.prog Go.Proofs.Tryz.f59 R) { tmps:=T,defers:=ds } W):=by
  rintro W T _ hW rfl k0 k1 k2 k3 k4 k5 k6 k7 k8 k9;exact gQ (by decide +kernel) c _ hfit hvc (hb W hW T k0 k1 k2 k3 k4 k5 k6 k7 k8 k9) (fun _ _ _ h=>h.elim) (fun _ _ _ _ h=>h.elim) fun a w' env h1 h2=>hO a w' env h1 h2
 clear hb hvc hfit hO hv
 go_enter_defers Go.Proofs.Tryz.func59,Go.Proofs.Tryz.ntmps59
 refine VG fun X Y hX=>?_
 go_wp2
 obtain⟨rfl,rfl⟩:=hX;exact key _ _ _ (Xp w) rfl rfl rfl rfl rfl rfl rfl rfl rfl rfl rfl
def vS(t:List UInt8)(rc:D)(gs:List D):Prop :=
 gs=[]/\match bn t with
  | none=>∃(s:aa)(g:Int),rc=.o (.au [.ptr (EM s [] [] g),.bool false])
  | some p=>rc=.o (.au [.ptr (fy p.1 p.2.dt p.2.tx p.2.gd),.bool true])
theorem Uu(t:List UInt8)(ht:t.length<=1048576):bM Go.Proofs.Tryz.prog 59 [.str t] [] (vS t):=by
 refine⟨by decide +kernel,fun w A vs gv Fs hg hA hn hpre hgpre hgemp hFd hFs=>?_⟩
 have hvs:vs=#[vs.getD 0 undef]:=by
  match vs,hn with
  | ⟨[x]⟩,_=>rfl
 have hv:Rd w A (vs.getD 0 undef) (.str t):=sN (hpre 0 _ rfl) trivial;rw[hvs]
 have fin:∀{rc:D}{b:Bool}{L:List D}{e:Ending}{w2:World},rc=.o (.au [.ptr L,.bool b])->vS t rc []->D6 w A b L e w2->∃(rc:D)(gs':List D)(v:Value)(F:Nat->Prop)(gv':Nat->Value)(Fs':Nat->Nat->Prop),vS t rc gs'/\e=.returned v/\w.heap.size<=w2.heap.size /\
   aK w2 (fun b=>A b\/(w.heap.size<=b/\b<w2.heap.size/\¬F b/\∀j,¬Fs' j b)) (aj w2 (nth gs') gv') v F rc/\(rc.isObj=false->∀b,¬F b) /\
   (∀k,aK w2 (fun b=>A b\/(w.heap.size<=b/\b<w2.heap.size/\¬F b/\∀j,¬Fs' j b)) (aj w2 (nth gs') gv') (gv' k) (Fs' k) (nth gs' k))/\(∀k,(nth gs' k).isObj=false->∀b,¬Fs' k b) /\
   (∀k,nth [] k≠.dead->gv' k=gv k) /\
   (∀b,F b->b<w2.heap.size/\(w.heap.size<=b\/∃j,Fs j b)/\∀j,¬Fs' j b)/\(∀j b,Fs' j b->b<w2.heap.size/\(w.heap.size<=b\/∃j,Fs j b))/\(∀i j b,i≠j->Fs' i b->¬Fs' j b) /\
   (∀b,b<w.heap.size->(∀j,¬Fs j b)->w2.heap[b]?=w.heap[b]?)/\w2.os=w.os/\w2.tape=w.tape/\w2.output=w.output:=by
  rintro rc b L e w2 rfl hQ ⟨v,F,rfl,hs,hown,hF,hsame,hos,htape,hout⟩;refine⟨_,[],v,F,gv,fun _ _=>False,hQ,rfl,hs,?_,(fun h=>by cases h),fun k=>Pl.dead,fun _ _ _ h=>h,fun _ _=>rfl,fun b hb=>⟨(hF b hb).1,.inl (hF b hb).2,fun _ h=>h⟩,fun _ _ h=>h.elim,fun _ _ _ _ h=>h.elim,fun b hb _=>hsame b hb,hos,htape,hout⟩;refine hown.mono (fun x hx=>?_) (fun _ _=>rfl) (fun _ _=>rfl) (fun _ h=>h);exact hx.imp_right fun h=>⟨h.1,h.2.1,h.2.2,fun _ h=>h⟩
 refine TF hA hg hv QW (Xj t ht) fun a w' env ho hB=>?_
 unfold rJ at ho;cases hr:bn t with
 | none =>
  rw[hr] at ho;obtain⟨s,n,x,y,z,u,v,rfl⟩:=ho;exact Hc hB fun e w2 h=>fin rfl ⟨rfl,by rw[hr];exact⟨_,_,rfl⟩⟩ h
 | some p =>
  rw[hr] at ho;obtain⟨x,y,z,u,v,rfl⟩:=ho;exact Hc hB fun e w2 h=>fin rfl ⟨rfl,by rw[hr];rfl⟩ h
end Go.D3
namespace Go.D3
open Go
set_option maxRecDepth 100000
def gW:Option (aa×Hs)->D
 | some p=>.au [.ptr (fy p.1 p.2.dt p.2.tx p.2.gd),.int .i64 0]
 | none=>.au [.bp,.int .i64 6]
theorem Nj(v:Value)(w:World)(Φ:Addr->Bool->World->Prop)(hc:Calls Go.Proofs.Tryz.prog 59 #[v] w fun e w'=>∃a b,e=.returned (.tuple #[.pointer (some a),.bool b])/\Φ a b w') :
  Calls Go.Proofs.Tryz.prog 33 #[v] w fun e w'=>∃a b,e=.returned (match b with | true=>.tuple #[.pointer (some a),.int .i64 0] | false=>.tuple #[.pointer none,.int .i64 6])/\Φ a b w':=by
 have hnot:∀(x:Bool)(w:World),(Op.unary .not (.bool x)).run Go.Proofs.Tryz.prog w=.ok (.bool (!x)) w:=fun _ _=>rfl
 go_enter Go.Proofs.Tryz.func33,Go.Proofs.Tryz.ntmps33
 go_wp2_with (go_at_call 59;refine hc.mono ?_;rintro e w' ⟨a,b,rfl,hΦ⟩)
 ·rename_i hb
  go_ret2
  cases b
  ·exact⟨a,false,rfl,hΦ⟩
  ·cases hb
 ·rename_i hb
  go_ret2
  cases b
  ·cases hb
  ·exact⟨a,true,rfl,hΦ⟩
theorem GD{w:World}{A:Nat->Prop}{v:Value}{x y:D}{F:Nat->Prop}(h:an w A v (.au [x,y]) F):∃(a b:Value)(Fs:Nat->Nat->Prop),v=.tuple #[a,b]/\an w A a x (Fs 0)/\an w A b y (Fs 1)/\(∀j c,Fs j c->F c)/\∀i j c,i≠j->Fs i c->¬Fs j c:=by
 cases h with
 | @au cs _ _ Fs hs hr hfs hdis =>
  have h2:cs.size=2:=hs;obtain⟨l⟩:=cs
  match l,h2 with
  | [a,b],_=>exact⟨a,b,Fs,rfl,hr 0 _ rfl,hr 1 _ rfl,hfs,hdis⟩
theorem Gz{w:World}{A:Nat->Prop}{a b:Value}{x y:D}{F:Nat->Prop}(h1:an w A a x F)(h2:an w A b y fun _=>False):an w A (.tuple #[a,b]) (.au [x,y]) F:=by
 refine .au (fun j c=>j=0/\F c) rfl (fun j d hj=>?_) (fun j c h=>h.2) fun i j c hij hi hj=>hij (hi.1.trans hj.1.symm)
 match j with
 | 0=>cases hj;exact h1.mono (fun _ h=>h) (fun _ _=>rfl) (fun _ _=>rfl) fun _ h=>⟨rfl,h⟩
 | 1=>cases hj;exact h2.mono (fun _ h=>h) (fun _ _=>rfl) (fun _ _=>rfl) fun _ h=>h.elim
 | _+2=>cases hj
theorem uY(t:List UInt8)(ht:t.length<=1048576):aC Go.Proofs.Tryz.prog 33 [.v (.str t)] (gW (bn t)):=by
 intro w A vs Fs hg hA hn hpre hdis hFs
 have hE:∀j b,¬Fs j b:=fun j b hb=>by
  have:=(hFs j b hb).2.2
  match j,this with
  | 0,_=>exact(hpre 0 _ rfl).2 b hb
 have hvs:vs=#[vs.getD 0 undef]:=by
  match vs,hn with
  | ⟨[x]⟩,_=>rfl
 have hv:Rd w A (vs.getD 0 undef) (.str t):=(hpre 0 _ rfl).1
 have hrd:=(Uu t ht).2 w A vs (fun _=>undef) (fun _ _=>False) hg hA hn (fun j a hj=>by
  match j with
  | 0=>cases hj;exact .rd hv
  | _+1=>cases hj) (fun k=>Pl.dead) (fun _ _ _ h=>h) (fun _ _ _ _ h=>h.elim) fun _ _ h=>h.elim
 rw[hvs] at hrd|-
 refine(Nj _ w (fun a b w'=>w.heap.size<=w'.heap.size/\(∀c,c<w.heap.size->w'.heap[c]?=w.heap[c]?)/\w'.os=w.os/\w'.tape=w.tape/\w'.output=w.output /\
  match bn t with
  | none=>b=false
  | some p=>b=true/\∃F:Nat->Prop,an w' (fun x=>A x\/(w.heap.size<=x/\x<w'.heap.size/\¬F x)) (.pointer (some a)) (.ptr (fy p.1 p.2.dt p.2.tx p.2.gd)) F/\∀x,F x->x<w'.heap.size/\w.heap.size<=x) (hrd.mono ?_)).mono ?_
 ·rintro e w' ⟨rc,gs',v,F,gv',Fs',⟨rfl,hq⟩,rfl,hsz,hc,_,hcg,hemp,_,hF,_,_,hsame,hos,htape,hout⟩
  have hF0:∀j x,¬Fs' j x:=fun j=>hemp j rfl
  cases hr:bn t with
  | none =>
   rw[hr] at hq;obtain⟨s,g,rfl⟩:=hq;obtain⟨a,b,Fs2,rfl,h1,h2,_,_⟩:=GD (show an w' _ v _ F from hc);cases h2;cases h1;exact⟨_,_,rfl,hsz,fun c hc=>hsame c hc fun _ h=>h,hos,htape,hout,rfl⟩
  | some p =>
   rw[hr] at hq;subst hq;obtain⟨a,b,Fs2,rfl,h1,h2,hf,_⟩:=GD (show an w' _ v _ F from hc);cases h2;have h3:=h1.mono (A':=fun x=>A x\/(w.heap.size<=x/\x<w'.heap.size/\¬F x)) (fun x hx=>hx.imp_right fun h=>⟨h.1,h.2.1,h.2.2.1⟩) (fun _ _=>rfl) (fun _ _=>rfl) (hf 0)
   obtain⟨q,rfl⟩:∃q,a=.pointer (some q):=by
    cases h1;exact⟨_,rfl⟩
   exact⟨_,_,rfl,hsz,fun c hc=>hsame c hc fun _ h=>h,hos,htape,hout,rfl,F,h3,fun x hx=>⟨(hF x hx).1,(hF x hx).2.1.elim (fun h=>h) fun⟨_,h⟩=>h.elim⟩⟩
 ·rintro e w' ⟨a,b,rfl,hsz,hsame,hos,htape,hout,h⟩
  cases hr:bn t with
  | none =>
   rw[hr] at h;obtain rfl:b=false:=h;refine⟨_,fun _=>False,fun _ _=>False,rfl,hsz,Gz .bp (.int (ku (k:=.i64) (n:=6) rfl)),fun j a hj=>?_,fun _ h=>h.elim,fun _ _ h=>h.elim,fun _ _ _ _ h=>h.elim,fun c hc _=>hsame c hc,hos,htape,hout⟩
   match j with
   | 0 =>
    cases hj;exact fun _ h=>h
   | _+1=>cases hj
  | some p =>
   rw[hr] at h;obtain⟨rfl,F,h1,h2⟩:=h;refine⟨_,F,fun _ _=>False,rfl,hsz,Gz (h1.mono (fun x hx=>hx.imp_right fun h=>⟨h.1,h.2.1,h.2.2,fun _ h=>h⟩) (fun _ _=>rfl) (fun _ _=>rfl) fun _ h=>h) (.int (ku (k:=.i64) (n:=0) rfl)),fun j a hj=>?_,fun x hx=>⟨(h2 x hx).1,.inl (h2 x hx).2,fun _ h=>h⟩,fun _ _ h=>h.elim,fun _ _ _ _ h=>h.elim,fun c hc _=>hsame c hc,hos,htape,hout⟩
   match j with
   | 0 =>
    cases hj;exact fun _ h=>h
   | _+1=>cases hj
theorem Ql(s:aa)(dt:List af)(tx:List (List ah))(g:Nat):(D.ptr (fy s dt tx g)).ba=true:=by
 simp only[fy,D.ba,cB,bZ,kr F9,kr rk,kr (kr yf),Bool.and_self]
theorem uv(o:Option (aa×Hs)):(gW o).ba=true:=by
 cases o with
 | none=>rfl
 | some p =>
  have:=Ql p.1 p.2.dt p.2.tx p.2.gd;simp only[D.ba] at this;simp only[gW,D.ba,cB,this,Bool.and_self]
end Go.D3
