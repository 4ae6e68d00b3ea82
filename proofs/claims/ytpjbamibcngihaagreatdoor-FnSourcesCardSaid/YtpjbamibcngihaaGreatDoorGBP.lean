/- CONTRACTS: a journal's data behind some transactions,the reference's side. -/
import Derived.Test.YtpjbamibcngihaaGreatDoorGBO
import Derived.Test.YtpjbamibcngihaaGreatDoorChecked
import Derived.Tactics
import Derived.Tactics2
import Derived.Defers
import Derived.Laws.Pointers
import Derived.RegionTactic
import Derived.RegionCalls
import Derived.Laws.NewBlocks
import Derived.Test.YtpjbamibcngihaaGreatDoorGBN
import Derived.Test.YtpjbamibcngihaaGreatDoorGAW
namespace Go.D3
open Go
set_option maxRecDepth 100000
set_option maxHeartbeats 4000000
theorem SG(t:List UInt8)(ht:t.length<=1048576):bA Go.Proofs.Tryz.prog vF (fun _=>False) ⟨fun _ _=>False,rz t⟩ [.str t,.av 11 [(0,0)],.bool false,.av 10 [(0,0)],.dead,.dead,.dead,.dead,.dead,.box (cG ⟨0,[],[],[],[]⟩ [] [] 0),.box [.int .i64 0],.box [.av 9 [(0,0)]]]:=by
 unfold vF;simp only[go_sem];refine SI t ht fun s n b hb hp=>?_
 unfold cG;simp only[go_sem];refine⟨fun h=>?_,fun h=>?_⟩
 ·have hn:dw t=none:=by
   cases hh:dw t with
   | none=>rfl
   | some p=>rw[hb,hh] at h;cases h
  unfold rz bO;rw[hn];exact⟨s,n,_,_,_,_,_,rfl⟩
 have hs:∃p,dw t=some p:=by
  cases hh:dw t with
  | none=>rw[hb,hh] at h;cases h
  | some p=>exact⟨p,rfl⟩
 obtain⟨p,hh⟩:=hs;obtain⟨rfl,rfl⟩:=hp p hh;obtain⟨hok,hpl⟩:=Ab hh;have hso:=eQ (eK hok).1;have hb':b=true:=by rw[hb,hh];rfl
 subst hb';clear hb hp h;refine QB t p.1 hso ?_;unfold cG;simp only[go_sem];refine aG [4,5,6,7,8] (fun(H:Hs)=>[(9,.box (cG p.1 H.dt H.tx 0)),(10,.box [.int .i64 H.gd])]) (fun H=>fU p.1 t H/\cY p.1 t H.gd [] H=cY p.1 t p.2 [] ⟨[eE p.1],[],p.2⟩) (fun H=>t.length-H.gd) ⟨[eE p.1],[],p.2⟩ (by simp only[go_sem];rfl) ⟨Aw hso hpl,rfl⟩ rfl ?_;rintro H ⟨hH,hr⟩;have hgl:=hH.gl;have hdl:=hH.dl;have h6:=hH.t6;unfold cG;simp only[go_sem];refine ax (J1 t H.gd (by omega) hgl) rfl (.inl (UR _)) ?_;have hf:=sR (t:=t) _ H.gd [] (Nat.le_refl _) (by decide);have hrx:=qH (s:=p.1) (t:=t) (H:=H) _ H.gd [] (Nat.le_refl _)
 have stop:cY p.1 t H.gd [] H=H->∀x y z u v,rz t [.str t,.av 11 [(0,0)],.bool true,.av 10 [(0,0)],x,y,z,u,v,.box (cG p.1 H.dt H.tx 0),.box [.int .i64 H.gd],.box [.av 9 [(0,0)]]]:=fun hg x y z u v=>by
  have e:bO t=some (p.1,H):=by unfold bO;rw[hh];show some (p.1,_)=_;rw[<-hr,hg]
  unfold rz;rw[e];exact⟨_,_,_,_,_,rfl⟩
 cases hx:gE t H.gd [] with
 | none =>
  rw[hx] at hrx;simp only[rP];simp only[go_sem];exact stop hrx _ _ _ _ _
 | some q =>
  obtain⟨l,e⟩:=q;rw[hx] at hrx;obtain⟨f1,f2,f3⟩:=hf l e hx;simp only[rP];simp only[go_sem];refine QX t p.1 H l hok hH.last (by omega) (by omega) ?_;unfold cG;simp only[go_sem];refine⟨fun h=>stop ?_ _ _ _ _ _,fun h=>?_⟩
  ·have hg:db p.1 H.last l=none:=by
    unfold db;cases hd:af.all p.1 H.last l with
    | none=>rfl
    | some d =>
     rw[hd] at h;have h:d.fM p.1=false:=by simpa[jv] using h
     rw[Option.bind_some,h,Bool.and_false];rfl
   rw[hrx];simp only[hg]
  ·obtain⟨d,hd,hw⟩:∃d,af.all p.1 H.last l=some d/\d.fM p.1=true:=by
    cases hd:af.all p.1 H.last l with
    | none=>rw[hd] at h;cases h
    | some d =>
     rw[hd] at h;exact⟨d,rfl,by simpa[jv] using h⟩
   have hg:db p.1 H.last l=some d:=by unfold db;rw[hd,Option.bind_some,hw,decide_eq_true f1];rfl
   have ep:jv p.1 (af.all p.1 H.last l)=(d,true):=by rw[hd,jv,hw]
   rw[ep];refine OY t p.1 H l d (by omega) ?_;refine Uu (E:=⟨fun _ _=>False,fun _=>False⟩) t p.1 H l (H.dt++[d]) (by omega) ?_;unfold cG;simp only[go_sem];exact⟨H.push d l e,⟨hH.push hso hg f2 f3,by rw[<-hr,hrx];simp only[hg];rfl⟩,by show t.length-e<t.length-H.gd;omega,rfl⟩
end Go.D3
namespace Go.D3
open Go
set_option maxRecDepth 100000
theorem Ve(b0 b1 b2:Nat)(n:Int)(x:Value)(u:FrameMode)(w:World)(h0:w.cell? ⟨b0,0,none⟩=some (.pointer (some ⟨b1,0,none⟩)))(h2:w.cell? ⟨b2,0,none⟩=some (.int .i64 n))(h1:w.cell? ⟨b1,7,none⟩=some x)(hz:w.frozen? ⟨b1,7,none⟩=false) :
  CallsD Go.Proofs.Tryz.prog 85 #[.pointer (some ⟨b2,0,none⟩),.pointer (some ⟨b0,0,none⟩)] u w fun e u' w'=>u'=u/\(e=.returned (.tuple #[])/\w'=w.setCell ⟨b1,7,none⟩ (.int .i64 n)):=by
 go_enter_d Go.Proofs.Tryz.func85,Go.Proofs.Tryz.ntmps85
 go_wp2
 go_end0
 exact⟨rfl,rfl⟩
end Go.D3
namespace Go.D3
open Go
set_option maxRecDepth 100000
theorem Tm(w:World):Sem.run Go.Proofs.Tryz.prog (Instr.build 75 #[]) w=.ok (.agg #[.int .i64 0,.slice none 0 0,.slice none 0 0,.slice none 0 0,.slice none 0 0,.slice none 0 0,.slice none 0 0,.int .i64 0]) w:=by
 first | rfl | kernel_rfl | (simp[go_sem];rfl) | (go_simp;rfl)
def mW:Array Value:=#[.int .i64 0,.slice none 0 0,.slice none 0 0,.slice none 0 0,.slice none 0 0,.slice none 0 0,.slice none 0 0,.int .i64 0]
theorem VU(w:World):Sem.run Go.Proofs.Tryz.prog (Instr.box 75 (.agg #[.int .i64 0,.slice none 0 0,.slice none 0 0,.slice none 0 0,.slice none 0 0,.slice none 0 0,.slice none 0 0,.int .i64 0])) w=.ok (.pointer (some ⟨w.heap.size,0,none⟩)) (w.alloc (.cells #[.int .i64 0,.slice none 0 0,.slice none 0 0,.slice none 0 0,.slice none 0 0,.slice none 0 0,.slice none 0 0,.int .i64 0] 75)):=by
 first | rfl | kernel_rfl | (simp[go_sem];rfl) | (go_simp;rfl)
theorem VY(w:World)(x y:Value):Sem.run Go.Proofs.Tryz.prog (Instr.makeFunc (.func 85) #[] #[x,y]) w=.ok (.func (.func 85) #[] #[x,y]) w:=by
 first | rfl | kernel_rfl | (simp[go_sem];rfl) | (go_simp;rfl)
theorem VR(w:World):((w.alloc (.cells #[.pointer none] 70)).alloc (.cells mW 75)).cell? ⟨w.heap.size,0,none⟩=some (.pointer none):=by
 rw[World.cell?_alloc_past _ _ _ (show w.heap.size<(w.heap.push _).size by rw[Array.size_push];omega),World.cell?_alloc_at _ _ _ _ rfl];rfl
theorem Vu(w:World):((w.alloc (.cells #[.pointer none] 70)).alloc (.cells mW 75)).frozen? ⟨w.heap.size,0,none⟩=false:=by
 rw[World.frozen?_alloc_past _ _ _ (show w.heap.size<(w.heap.push _).size by rw[Array.size_push];omega),World.frozen?_alloc_at _ _ _ _ rfl]
end Go.D3
namespace Go.D3
open Go
set_option maxRecDepth 100000
def pB(b:Nat):Value:=.pointer (some ⟨b,0,none⟩)
def vq(v:Value)(n:Nat):Nat->Value
 | 0=>v
 | 1=>pB n
 | 2=>.bool false
 | 3=>pB (n+2)
 | 9=>pB (n+1)
 | 10=>pB (n+2)
 | 11=>pB n
 | _=>undef
def rQ(n:Nat)(k b:Nat):Prop:=(k=9/\b=n+1)\/(k=10/\b=n+2)\/(k=11/\b=n)
def mX(v:Value)(w:World)(A:Nat->Prop)(hA:∀b,A b->b<w.heap.size)(hg:e8 w A):Ctx:=⟨w,fun _=>False,A,vq v w.heap.size,fun b hb=>⟨hA b hb,fun h=>h⟩,hg,[⟨.fn (.func 85) #[pB (w.heap.size+2),pB w.heap.size],#[]⟩]⟩
def km(t:List UInt8):List D:=[.str t,.av 11 [(0,0)],.bool false,.av 10 [(0,0)],.dead,.dead,.dead,.dead,.dead,.box (cG ⟨0,[],[],[],[]⟩ [] [] 0),.box [.int .i64 0],.box [.av 9 [(0,0)]]]
def ve:List Nat:=[0,2,3,4,5,6,7,8,9]
theorem u9(t:List UInt8)(k:Nat):(⟨km t,0,[]⟩:St).cont k=nth (km t) k:=by
 rw[ry];by_cases hk:k<1000
 ·rw[if_pos hk]
 ·rw[if_neg hk,fJ]
  show 12<=k;omega
structure W3(w W:World):Prop where
 sz:W.heap.size=w.heap.size+3
 h0:W.heap[w.heap.size]?=some (.cells #[pB (w.heap.size+1)] 70 (0,0))
 h1:W.heap[w.heap.size+1]?=some (.cells mW 75 (0,0))
 h2:W.heap[w.heap.size+2]?=some (.cells #[.int .i64 0] 3 (0,0))
 old:∀b,b<w.heap.size->W.heap[b]?=w.heap[b]?
 os:W.os=w.os
 tape:W.tape=w.tape
 output:W.output=w.output
theorem Wm{w W:World}{A:Nat->Prop}{t:List UInt8}{v:Value}{hA:∀b,A b->b<w.heap.size}{hg:e8 w A}{T:Array Value}(hW:W3 w W)(hv:Rd w A v (.str t))(hs:T.size=77)(h0:T.getD 0 undef=v)(h2:T.getD 2 undef=pB w.heap.size)(h3:T.getD 3 undef=.bool false)(h4:T.getD 4 undef=pB (w.heap.size+2))
  (h5:T.getD 5 undef=undef) (h6:T.getD 6 undef=undef) (h7:T.getD 7 undef=undef) (h8:T.getD 8 undef=undef) (h9:T.getD 9 undef=undef) :
  Bm (mX v w A hA hg) 77 ve (km t) { tmps:=T,defers:=(mX v w A hA hg).rO } W:=by
 refine⟨⟨vq v w.heap.size,rQ w.heap.size,fun _=>False,?_,?_,fun i t hi _=>by simp at hi,fun _ _ _=>rfl⟩,rfl,fun j hj=>by simp at hj,hs,rfl⟩
 ·have aP:∀b,A b->aq (mX v w A hA hg) (rQ w.heap.size) (fun _=>False) W b:=fun b hb=>by
   have:=hA b hb;have:=hW.sz;refine⟨⟨by omega,fun _=>hb⟩,fun h=>h,fun k hk=>?_⟩;unfold rQ at hk;omega
  have c9:(⟨km t,0,[]⟩:St).cont 9=.box (cG ⟨0,[],[],[],[]⟩ [] [] 0):=u9 t 9;have c10:(⟨km t,0,[]⟩:St).cont 10=.box [.int .i64 0]:=u9 t 10;have c11:(⟨km t,0,[]⟩:St).cont 11=.box [.av 9 [(0,0)]]:=u9 t 11
  have av:∀(k b:Nat)(l:List D),(⟨km t,0,[]⟩:St).cont k=.box l->0<l.length->vq v w.heap.size k=pB b->kW W (⟨km t,0,[]⟩:St).cont (vq v w.heap.size) (pB b) k [(0,0)]:=fun k b l hc hl hv=>by
   refine⟨?_,?_⟩
   ·rw[hc]
    exact⟨rfl,hl,trivial⟩
   ·rw[hc,hv]
    exact⟨_,rfl,rfl⟩
  refine⟨fun k=>?_,fun i j hij b hi hj=>?_,fun _ _ _ h=>h,fun k hk b hb=>?_,fun k b hb=>?_,fun _ h=>h.elim,?_,fun b hb _=>hW.old b hb,hW.os,hW.tape,hW.output⟩
  ·rw[u9]
   match k with
   | 0=>exact .rd (hv.mono aP fun b hb=>hW.old b (hA b hb))
   | 1=>exact .ref (av 11 _ _ c11 (by decide) rfl)
   | 2=>exact .rd .bool
   | 3=>exact .ref (av 10 _ _ c10 (by decide) rfl)
   | 4=>exact Pl.dead
   | 5=>exact Pl.dead
   | 6=>exact Pl.dead
   | 7=>exact Pl.dead
   | 8=>exact Pl.dead
   | 9 =>
    refine⟨by decide,_,mW,75,fun _ _=>False,rfl,hW.h1,rfl,fun j c hj=>?_,.inl ⟨rfl,rfl⟩,fun _ _ h=>h.elim,fun _ _ _ _ h=>h.elim⟩
    match j with
    | 0=>cases hj;exact .rd (.int (jO (k:=.i64) (n:=0) rfl))
    | 1=>cases hj;exact .nil
    | 2=>cases hj;exact .nil
    | 3=>cases hj;exact .nil
    | 4=>cases hj;exact .nil
    | 5=>cases hj;exact .nil
    | 6=>cases hj;exact .nil
    | 7=>cases hj;exact .rd (.int (jO (k:=.i64) (n:=0) rfl))
    | _+8=>cases hj
   | 10 =>
    refine⟨by decide,_,#[.int .i64 0],3,fun _ _=>False,rfl,hW.h2,rfl,fun j c hj=>?_,.inr (.inl ⟨rfl,rfl⟩),fun _ _ h=>h.elim,fun _ _ _ _ h=>h.elim⟩
    match j with
    | 0=>cases hj;exact .rd (.int (jO (k:=.i64) (n:=0) rfl))
    | _+1=>cases hj
   | 11 =>
    refine⟨by decide,_,#[pB (w.heap.size+1)],70,fun _ _=>False,rfl,hW.h0,rfl,fun j c hj=>?_,.inr (.inr ⟨rfl,rfl⟩),fun _ _ h=>h.elim,fun _ _ _ _ h=>h.elim⟩
    match j with
    | 0=>cases hj;exact Pl.ref (av 9 _ _ c9 (by decide) rfl)
    | _+1=>cases hj
   | k+12 =>
    rw[fJ (km t) (k+12) (by show 12<=k+12;omega)];exact Pl.dead
  ·unfold rQ at hi hj;omega
  ·rcases hb with⟨rfl,_⟩ | ⟨rfl,_⟩ | ⟨rfl,_⟩
   ·rw[c9] at hk;cases hk
   ·rw[c10] at hk;cases hk
   ·rw[c11] at hk;cases hk
  ·have:=hW.sz
   unfold rQ at hb;exact⟨by omega,.inr (by show w.heap.size<=b;omega)⟩
  ·have:=hW.sz
   show w.heap.size<=_;omega
 ·intro j t hj _
  match j with
  | 0=>cases hj;exact h0
  | 1=>cases hj;exact h2
  | 2=>cases hj;exact h3
  | 3=>cases hj;exact h4
  | 4=>cases hj;exact h5
  | 5=>cases hj;exact h6
  | 6=>cases hj;exact h7
  | 7=>cases hj;exact h8
  | 8=>cases hj;exact h9
  | _+9=>cases hj
end Go.D3
namespace Go.D3
open Go
set_option maxRecDepth 100000
def JQ(s:aa)(dt:List af)(tx:List (List ah))(g:Int):List D:=[.int .i64 s.nd,ints s.fr,ints s.to,ae U.d U.zero s.lf,ae U.d U.zero s.rt,ae af.d af.zero dt,ae (ae ah.d ah.zero) [] tx,.int .i64 g]
def I8(w:World)(A:Nat->Prop)(b:Bool)(L:List D)(e:Ending)(w2:World):Prop:=∃(v:Value)(F:Nat->Prop),e=.returned v/\w.heap.size<=w2.heap.size/\an w2 (fun x=>A x\/(w.heap.size<=x/\x<w2.heap.size/\¬F x)) v (.au [.ptr L,.bool b]) F /\
 (∀x,F x->x<w2.heap.size/\w.heap.size<=x)/\(∀x,x<w.heap.size->w2.heap[x]?=w.heap[x]?)/\w2.os=w.os/\w2.tape=w.tape/\w2.output=w.output
theorem At{a b:Nat}(h:pB a=pB b):a=b:=by
 unfold pB at h;simpa using h
theorem Hd{w w':World}{A:Nat->Prop}{t:List UInt8}{v:Value}{hA:∀b,A b->b<w.heap.size}{hg:e8 w A}{a:Act}{R:Ending->World->Prop}{b:Bool}{g:Int}{x y z u v0:D}{s:aa}{dt:List af}{tx:List (List ah)}
  (hB:Bm (mX v w A hA hg) 77 ve [.str t,.av 11 [(0,0)],.bool b,.av 10 [(0,0)],x,y,z,u,v0,.box (cG s dt tx 0),.box [.int .i64 g],.box [.av 9 [(0,0)]]] a w') (hR:∀e w2,I8 w A b (JQ s dt tx g) e w2->R e w2) :
  Leaves Go.Proofs.Tryz.prog Go.Proofs.Tryz.f59 a.tmps R a.defers .returning w':=by
 rw[hB.defers];obtain⟨vl,fp,G,hp,htr,_,hgh⟩:=hB.ex;have g9:vl 9=pB (w.heap.size+1):=by exact hgh 9 (Nat.le_refl _) (by decide)
 have g10:vl 10=pB (w.heap.size+2):=by exact hgh 10 (by decide) (by decide)
 have g11:vl 11=pB w.heap.size:=by exact hgh 11 (by decide) (by decide)
 obtain⟨_,b9,cs9,e9,Fs9,hv9,hb9,hs9,hc9,hF9,hf9,hd9⟩:=(show pq w' _ _ (vl 9) (fp 9) (cG s dt tx 0) from hp.ok 9);obtain⟨_,b10,cs10,e10,Fs10,hv10,hb10,hs10,hc10,hF10,hf10,hd10⟩:=(show pq w' _ _ (vl 10) (fp 10) [.int .i64 g] from hp.ok 10);obtain⟨_,b11,cs11,e11,Fs11,hv11,hb11,hs11,hc11,hF11,hf11,hd11⟩:=(show pq w' _ _ (vl 11) (fp 11) [.av 9 [(0,0)]] from hp.ok 11);rw[g9] at hv9;rw[g10] at hv10;rw[g11] at hv11;obtain rfl:=At hv9;obtain rfl:=At hv10;obtain rfl:=At hv11;have hnn:w.heap.size<=w'.heap.size:=by exact hp.size
 have av:∀{val:Value}{k bb:Nat}{l:List D},kW w' (⟨[.str t,.av 11 [(0,0)],.bool b,.av 10 [(0,0)],x,y,z,u,v0,.box (cG s dt tx 0),.box [.int .i64 g],.box [.av 9 [(0,0)]]],0,[]⟩:St).cont vl val k [(0,0)]->(⟨[.str t,.av 11 [(0,0)],.bool b,.av 10 [(0,0)],x,y,z,u,v0,.box (cG s dt tx 0),.box [.int .i64 g],.box [.av 9 [(0,0)]]],0,[]⟩:St).cont k=.box l->vl k=pB bb->val=pB bb:=fun {val k bb l} h h1 h2=>by
  obtain⟨_,ad,h3,h4⟩:=h;rw[h1,h2] at h3;rw[h4];have:aF w' (pB bb) (.box l) [(0,0)]=some ⟨bb,0,none⟩:=rfl;rw[this] at h3;cases h3;rfl
 have t2:a.tmps.getD 2 undef=pB w.heap.size:=(htr 1 2 rfl rfl).trans (av (fL (hp.ok 1)) rfl g11);have t3:a.tmps.getD 3 undef=.bool b:=(htr 2 3 rfl rfl).trans (pl_bool (hp.ok 2));have k0:cs11.getD 0 undef=pB (w.heap.size+1):=av (fL (hc11 0 _ rfl)) rfl g9;have k2:cs10.getD 0 undef=.int .i64 g/\IntKind.i64.has g:=dY (hc10 0 _ rfl);have c0:w'.cell? ⟨w.heap.size,0,none⟩=some (pB (w.heap.size+1)):=by rw[<-k0];exact ey hb11 (by rw[hs11];decide)
 have c2:w'.cell? ⟨w.heap.size+2,0,none⟩=some (.int .i64 g):=by rw[<-k2.1];exact ey hb10 (by rw[hs10];exact Nat.zero_lt_one)
 have c1:w'.cell? ⟨w.heap.size+1,7,none⟩=some (cs9.getD 7 undef):=ey hb9 (by rw[hs9];show 7<8;decide);have hz:w'.frozen? ⟨w.heap.size+1,7,none⟩=false:=by simp[World.frozen?,hb9]
 refine leaves_cons (f:=85) (args:=#[pB (w.heap.size+2),pB w.heap.size]) (fun h=>by cases h) ?_ (CallsD.mono (Ve w.heap.size (w.heap.size+1) (w.heap.size+2) g _ .returning w' c0 c2 c1 hz) ?_)
 ·rfl
 rintro e u' w2 ⟨rfl,rfl,rfl⟩;have hr0:w'.heap.size<=(w'.setCell ⟨w.heap.size+1,7,none⟩ (.int .i64 g)).heap.size:=by simp
 have hr1:(w'.setCell ⟨w.heap.size+1,7,none⟩ (.int .i64 g)).heap.size=w'.heap.size:=by simp
 have c0':(w'.setCell ⟨w.heap.size+1,7,none⟩ (.int .i64 g)).cell? ⟨w.heap.size,0,none⟩=some (pB (w.heap.size+1)):=by
  have:=c0;simp only[World.cell?] at this|-
  rw[qh _ (by show w.heap.size≠w.heap.size+1;omega)];exact this
 have hoth:∀c,c≠w.heap.size+1->(w'.setCell ⟨w.heap.size+1,7,none⟩ (.int .i64 g)).heap[c]?=w'.heap[c]?:=fun c hc=>qh _ hc
 have hblk:=si (j:=7) (.int .i64 g) hb9;have hos:(w'.setCell ⟨w.heap.size+1,7,none⟩ (.int .i64 g)).os=w'.os/\(w'.setCell ⟨w.heap.size+1,7,none⟩ (.int .i64 g)).tape=w'.tape/\(w'.setCell ⟨w.heap.size+1,7,none⟩ (.int .i64 g)).output=w'.output:=⟨rfl,rfl,rfl⟩;generalize(w'.setCell ⟨w.heap.size+1,7,none⟩ (.int .i64 g))=w2 at hr0 hr1 c0' hoth hblk hos;show Leaves _ _ _ _ [] .returning w2;refine⟨.tuple #[pB (w.heap.size+1),.bool b],?_,hR _ _ ⟨_,fun c=>fp 9 c,rfl,by omega,?_,fun c hc=>?_,fun c hc=>?_,?_,?_,?_⟩⟩
 ·refine xR (fn:=Go.Proofs.Tryz.f59) (vs:=[pB (w.heap.size+1),.bool b]) ?_
  show(List.mapM (mn a.tmps) [.cell 2 70,.tmp 3]).run _ _=_;simp only[List.mapM_cons,List.mapM_nil,mn,t2,t3]
  have hl:(loadVar 70 ⟨w.heap.size,0,none⟩).run Go.Proofs.Tryz.prog w2=.ok (pB (w.heap.size+1)) w2:=by
   simp[loadVar,sv (show jm Go.Proofs.Tryz.prog 70=true by decide +kernel),c0']
  simp[asAddr,pB] at hl|-
  simp[hl]
 ·refine an.au (fun j c=>j=0/\fp 9 c) rfl (fun j d hj=>?_) (fun j c hc=>hc.2) (fun i j c hij hi hj=>hij (hi.1.trans hj.1.symm))
  match j with
  | 0 =>
   cases hj
   have stb:∀c,aq (mX v w A hA hg) fp G w' c->(A c\/(w.heap.size<=c/\c<w2.heap.size/\¬fp 9 c))/\c≠w.heap.size+1:=fun c hc=>by
    refine⟨?_,fun he=>hc.2.2 9 (he▸hF9)⟩;by_cases hlt:c<w.heap.size
    ·exact .inl (hc.1.2 hlt)
    ·exact .inr ⟨by omega,by rw[hr1];exact hc.1.1,hc.2.2 9⟩
   refine an.ptr (fun j c=>j≠7/\Fs9 j c) hblk (by rw[Array.size_setIfInBounds];exact hs9) (fun j d hj=>?_) ⟨rfl,hF9⟩ (fun j c hc=>⟨(hf9 j c hc.2).1,rfl,(hf9 j c hc.2).2⟩) (fun i j c hij hi hj=>hd9 i j c hij hi.2 hj.2)
   have own:∀{i:Nat}{xx:D},i≠7->an w' (aq (mX v w A hA hg) fp G w') (cs9.getD i undef) xx (Fs9 i)->an w2 (fun c=>A c\/(w.heap.size<=c/\c<w2.heap.size/\¬fp 9 c)) ((cs9.setIfInBounds 7 (.int .i64 g)).getD i undef) xx (fun c=>i≠7/\Fs9 i c):=fun {i xx} h7 h=>by
    rw[getD_set_ne _ (Ne.symm h7)];exact h.mono (fun c hc=>(stb c hc).1) (fun c hc=>hoth c (stb c hc).2) (fun c hc=>hoth c (hf9 i c hc).1) (fun c hc=>⟨h7,hc⟩)
   match j with
   | 0 =>
    cases hj;obtain⟨e1,e2⟩:=dY (hc9 0 _ rfl);rw[getD_set_ne _ (by decide)];show an _ _ (cs9.getD 0 undef) _ _;rw[e1];exact .int e2
   | 1=>cases hj;exact own (by decide) (hc9 1 _ rfl)
   | 2=>cases hj;exact own (by decide) (hc9 2 _ rfl)
   | 3=>cases hj;exact own (by decide) (hc9 3 _ rfl)
   | 4=>cases hj;exact own (by decide) (hc9 4 _ rfl)
   | 5=>cases hj;exact own (by decide) (hc9 5 _ rfl)
   | 6=>cases hj;exact own (by decide) (hc9 6 _ rfl)
   | 7 =>
    cases hj;rw[ng _ (by rw[hs9];show 7<8;decide)];exact .int k2.2
   | _+8=>cases hj
  | 1=>cases hj;exact .bool
  | _+2=>cases hj
 ·have:=hp.lt 9 c hc
  rw[hr1];exact⟨this.1,this.2.elim (fun h=>h.elim) (fun h=>h)⟩
 ·rw[hoth c (by omega)]
  exact hp.same c hc fun h=>h
 ·rw[hos.1];exact hp.os
 ·rw[hos.2.1];exact hp.tape
 ·rw[hos.2.2];exact hp.output
end Go.D3
namespace Go.D3
open Go
set_option maxRecDepth 100000
def Hid(p:Prop):Prop:=p
theorem V5{P:Program}{r0 r1 r2 r3 rest:Code}{Q:Exit->Act->World->Prop}{a:Act}{w:World}(h:∀(X:Code)(Y:Exit->Act->World->Prop),Hid (X=rest/\Y=Q)->(Code.seq r0 (.seq r1 (.seq r2 (.seq r3 X)))).wp P Y a w):(Code.seq r0 (.seq r1 (.seq r2 (.seq r3 rest)))).wp P Q a w:=h rest Q ⟨rfl,rfl⟩
theorem VA(w:World):W3 w (((w.alloc (Obj.cells #[Value.pointer (some { block:=w.heap.size+1,off:=0 })] 70)).alloc (Obj.cells #[.int .i64 0,.slice none 0 0,.slice none 0 0,.slice none 0 0,.slice none 0 0,.slice none 0 0,.slice none 0 0,.int .i64 0] 75)).alloc (Obj.cells #[Value.int IntKind.i64 0] 3)):=by
 have hs:∀(x:World)(ob:Obj),(x.alloc ob).heap=x.heap.push ob:=fun _ _=>rfl
 refine⟨by simp[hs],?_,?_,?_,fun b hb=>?_,rfl,rfl,rfl⟩
 ·simp only[hs,Array.getElem?_push,Array.size_push]
  rw[if_neg (by omega),if_neg (by omega),if_pos trivial];rfl
 ·simp only[hs,Array.getElem?_push,Array.size_push]
  rw[if_neg (by omega),if_pos trivial];rfl
 ·simp only[hs,Array.getElem?_push,Array.size_push]
  rw[if_pos trivial]
 ·simp only[hs,Array.getElem?_push,Array.size_push]
  rw[if_neg (by omega),if_neg (by omega),if_neg (by omega)]
theorem Pt{v:Value}{w:World}{A:Nat->Prop}{t:List UInt8}{R:Ending->World->Prop}{O:List D->Prop}{c:C}(hA:∀b,A b->b<w.heap.size)(hg:e8 w A)(hv:Rd w A v (.str t))
  (hfit:cw Go.Proofs.Tryz.prog 77 ve (uD 4 (Go.Proofs.Tryz.f59.body.getD .skip)) c=true) (hvc:bA Go.Proofs.Tryz.prog c (fun _=>False) ⟨fun _ _=>False,O⟩ (km t))
  (hO:∀a w' env,O env->Bm (mX v w A hA hg) 77 ve env a w'->Leaves Go.Proofs.Tryz.prog Go.Proofs.Tryz.f59 a.tmps R a.defers .returning w'):Calls Go.Proofs.Tryz.prog 59 #[v] w R:=by
 have h1:=Tm;have h2:=VU;have h3:=VY;have h4:∀t d o p,World.cell? { heap:=(w.alloc (Obj.cells #[Value.pointer none] 70)).heap.push (Obj.cells #[.int .i64 0,.slice none 0 0,.slice none 0 0,.slice none 0 0,.slice none 0 0,.slice none 0 0,.slice none 0 0,.int .i64 0] 75),tape:=t,drawn:=d,os:=o,output:=p } { block:=w.heap.size,off:=0 }=some (Value.pointer none):=fun _ _ _ _=>VR w
 have h5:∀t d o p,World.frozen? { heap:=(w.alloc (Obj.cells #[Value.pointer none] 70)).heap.push (Obj.cells #[.int .i64 0,.slice none 0 0,.slice none 0 0,.slice none 0 0,.slice none 0 0,.slice none 0 0,.slice none 0 0,.int .i64 0] 75),tape:=t,drawn:=d,os:=o,output:=p } { block:=w.heap.size,off:=0 }=false:=fun _ _ _ _=>Vu w
 have hb:=fun(W:World)(hW:W3 w W)(T:Array Value)=>Wm (hA:=hA) (hg:=hg) (T:=T) hW hv
 have key:Hid (∀(W:World)(T:Array Value)(ds:List Deferred),W3 w W->ds=(mX v w A hA hg).rO->T.size=77->T.getD 0 undef=v->T.getD 2 undef=pB w.heap.size->T.getD 3 undef=.bool false->T.getD 4 undef=pB (w.heap.size+2)->T.getD 5 undef=undef->T.getD 6 undef=undef->T.getD 7 undef=undef->T.getD 8 undef=undef->T.getD 9 undef=undef ->
   (uD 4 (Go.Proofs.Tryz.f59.body.getD .skip)).wp Go.Proofs.Tryz.prog (bodyPostD Go.Proofs.Tryz.prog Go.Proofs.Tryz.f59 R) { tmps:=T,defers:=ds } W):=by
  rintro W T _ hW rfl k0 k1 k2 k3 k4 k5 k6 k7 k8 k9;exact fZ (by decide +kernel) c _ hfit hvc (hb W hW T k0 k1 k2 k3 k4 k5 k6 k7 k8 k9) (fun _ _ _ h=>h.elim) (fun _ _ _ _ h=>h.elim) fun a w' env h1 h2=>hO a w' env h1 h2
 clear hb hvc hfit hO hv
 go_enter_defers Go.Proofs.Tryz.func59,Go.Proofs.Tryz.ntmps59
 refine V5 fun X Y hX=>?_
 go_wp2
 obtain⟨rfl,rfl⟩:=hX;exact key _ _ _ (VA w) rfl rfl rfl rfl rfl rfl rfl rfl rfl rfl rfl
def BA(t:List UInt8)(rc:D)(gs:List D):Prop :=
 gs=[]/\match bO t with
  | none=>∃(s:aa)(g:Int),rc=.o (.au [.ptr (JQ s [] [] g),.bool false])
  | some p=>rc=.o (.au [.ptr (im p.1 p.2.dt p.2.tx p.2.gd),.bool true])
theorem J3(t:List UInt8)(ht:t.length<=1048576):bR Go.Proofs.Tryz.prog 59 [.str t] [] (BA t):=by
 refine⟨by decide +kernel,fun w A vs gv Fs hg hA hn hpre hgpre hgemp hFd hFs=>?_⟩
 have hvs:vs=#[vs.getD 0 undef]:=by
  match vs,hn with
  | ⟨[x]⟩,_=>rfl
 have hv:Rd w A (vs.getD 0 undef) (.str t):=tJ (hpre 0 _ rfl) trivial;rw[hvs]
 have fin:∀{rc:D}{b:Bool}{L:List D}{e:Ending}{w2:World},rc=.o (.au [.ptr L,.bool b])->BA t rc []->I8 w A b L e w2->∃(rc:D)(gs':List D)(v:Value)(F:Nat->Prop)(gv':Nat->Value)(Fs':Nat->Nat->Prop),BA t rc gs'/\e=.returned v/\w.heap.size<=w2.heap.size /\
   aJ w2 (fun b=>A b\/(w.heap.size<=b/\b<w2.heap.size/\¬F b/\∀j,¬Fs' j b)) (aj w2 (nth gs') gv') v F rc/\(rc.isObj=false->∀b,¬F b) /\
   (∀k,aJ w2 (fun b=>A b\/(w.heap.size<=b/\b<w2.heap.size/\¬F b/\∀j,¬Fs' j b)) (aj w2 (nth gs') gv') (gv' k) (Fs' k) (nth gs' k))/\(∀k,(nth gs' k).isObj=false->∀b,¬Fs' k b) /\
   (∀k,nth [] k≠.dead->gv' k=gv k) /\
   (∀b,F b->b<w2.heap.size/\(w.heap.size<=b\/∃j,Fs j b)/\∀j,¬Fs' j b)/\(∀j b,Fs' j b->b<w2.heap.size/\(w.heap.size<=b\/∃j,Fs j b))/\(∀i j b,i≠j->Fs' i b->¬Fs' j b) /\
   (∀b,b<w.heap.size->(∀j,¬Fs j b)->w2.heap[b]?=w.heap[b]?)/\w2.os=w.os/\w2.tape=w.tape/\w2.output=w.output:=by
  rintro rc b L e w2 rfl hQ ⟨v,F,rfl,hs,hown,hF,hsame,hos,htape,hout⟩;refine⟨_,[],v,F,gv,fun _ _=>False,hQ,rfl,hs,?_,(fun h=>by cases h),fun k=>Pl.dead,fun _ _ _ h=>h,fun _ _=>rfl,fun b hb=>⟨(hF b hb).1,.inl (hF b hb).2,fun _ h=>h⟩,fun _ _ h=>h.elim,fun _ _ _ _ h=>h.elim,fun b hb _=>hsame b hb,hos,htape,hout⟩;refine hown.mono (fun x hx=>?_) (fun _ _=>rfl) (fun _ _=>rfl) (fun _ h=>h);exact hx.imp_right fun h=>⟨h.1,h.2.1,h.2.2,fun _ h=>h⟩
 refine Pt hA hg hv J6 (SG t ht) fun a w' env ho hB=>?_
 unfold rz at ho;cases hr:bO t with
 | none =>
  rw[hr] at ho;obtain⟨s,n,x,y,z,u,v,rfl⟩:=ho;exact Hd hB fun e w2 h=>fin rfl ⟨rfl,by rw[hr];exact⟨_,_,rfl⟩⟩ h
 | some p =>
  rw[hr] at ho;obtain⟨x,y,z,u,v,rfl⟩:=ho;exact Hd hB fun e w2 h=>fin rfl ⟨rfl,by rw[hr];rfl⟩ h
end Go.D3
namespace Go.D3
open Go
set_option maxRecDepth 100000
def iO:Option (aa×Hs)->D
 | some p=>.au [.ptr (im p.1 p.2.dt p.2.tx p.2.gd),.int .i64 0]
 | none=>.au [.bp,.int .i64 6]
theorem Pw(v:Value)(w:World)(Φ:Addr->Bool->World->Prop)(hc:Calls Go.Proofs.Tryz.prog 59 #[v] w fun e w'=>∃a b,e=.returned (.tuple #[.pointer (some a),.bool b])/\Φ a b w') :
  Calls Go.Proofs.Tryz.prog 33 #[v] w fun e w'=>∃a b,e=.returned (match b with | true=>.tuple #[.pointer (some a),.int .i64 0] | false=>.tuple #[.pointer none,.int .i64 6])/\Φ a b w':=by
 have hnot:∀(x:Bool)(w:World),(Op.unary .not (.bool x)).run Go.Proofs.Tryz.prog w=.ok (.bool (!x)) w:=fun _ _=>rfl
 go_enter Go.Proofs.Tryz.func33,Go.Proofs.Tryz.ntmps33
 go_wp2_with (go_at_call 59;refine hc.mono ?_;rintro e w' ⟨a,b,rfl,hΦ⟩)
 ·rename_i hb
  go_ret2
  cases b
  ·exact⟨a,false,rfl,hΦ⟩
  ·cases hb
 ·rename_i hb
  go_ret2
  cases b
  ·cases hb
  ·exact⟨a,true,rfl,hΦ⟩
theorem Hr{w:World}{A:Nat->Prop}{v:Value}{x y:D}{F:Nat->Prop}(h:an w A v (.au [x,y]) F):∃(a b:Value)(Fs:Nat->Nat->Prop),v=.tuple #[a,b]/\an w A a x (Fs 0)/\an w A b y (Fs 1)/\(∀j c,Fs j c->F c)/\∀i j c,i≠j->Fs i c->¬Fs j c:=by
 cases h with
 | @au cs _ _ Fs hs hr hfs hdis =>
  have h2:cs.size=2:=hs;obtain⟨l⟩:=cs
  match l,h2 with
  | [a,b],_=>exact⟨a,b,Fs,rfl,hr 0 _ rfl,hr 1 _ rfl,hfs,hdis⟩
theorem HY{w:World}{A:Nat->Prop}{a b:Value}{x y:D}{F:Nat->Prop}(h1:an w A a x F)(h2:an w A b y fun _=>False):an w A (.tuple #[a,b]) (.au [x,y]) F:=by
 refine .au (fun j c=>j=0/\F c) rfl (fun j d hj=>?_) (fun j c h=>h.2) fun i j c hij hi hj=>hij (hi.1.trans hj.1.symm)
 match j with
 | 0=>cases hj;exact h1.mono (fun _ h=>h) (fun _ _=>rfl) (fun _ _=>rfl) fun _ h=>⟨rfl,h⟩
 | 1=>cases hj;exact h2.mono (fun _ h=>h) (fun _ _=>rfl) (fun _ _=>rfl) fun _ h=>h.elim
 | _+2=>cases hj
theorem vN(t:List UInt8)(ht:t.length<=1048576):aC Go.Proofs.Tryz.prog 33 [.v (.str t)] (iO (bO t)):=by
 intro w A vs Fs hg hA hn hpre hdis hFs
 have hE:∀j b,¬Fs j b:=fun j b hb=>by
  have:=(hFs j b hb).2.2
  match j,this with
  | 0,_=>exact(hpre 0 _ rfl).2 b hb
 have hvs:vs=#[vs.getD 0 undef]:=by
  match vs,hn with
  | ⟨[x]⟩,_=>rfl
 have hv:Rd w A (vs.getD 0 undef) (.str t):=(hpre 0 _ rfl).1
 have hrd:=(J3 t ht).2 w A vs (fun _=>undef) (fun _ _=>False) hg hA hn (fun j a hj=>by
  match j with
  | 0=>cases hj;exact .rd hv
  | _+1=>cases hj) (fun k=>Pl.dead) (fun _ _ _ h=>h) (fun _ _ _ _ h=>h.elim) fun _ _ h=>h.elim
 rw[hvs] at hrd|-
 refine(Pw _ w (fun a b w'=>w.heap.size<=w'.heap.size/\(∀c,c<w.heap.size->w'.heap[c]?=w.heap[c]?)/\w'.os=w.os/\w'.tape=w.tape/\w'.output=w.output /\
  match bO t with
  | none=>b=false
  | some p=>b=true/\∃F:Nat->Prop,an w' (fun x=>A x\/(w.heap.size<=x/\x<w'.heap.size/\¬F x)) (.pointer (some a)) (.ptr (im p.1 p.2.dt p.2.tx p.2.gd)) F/\∀x,F x->x<w'.heap.size/\w.heap.size<=x) (hrd.mono ?_)).mono ?_
 ·rintro e w' ⟨rc,gs',v,F,gv',Fs',⟨rfl,hq⟩,rfl,hsz,hc,_,hcg,hemp,_,hF,_,_,hsame,hos,htape,hout⟩
  have hF0:∀j x,¬Fs' j x:=fun j=>hemp j rfl
  cases hr:bO t with
  | none =>
   rw[hr] at hq;obtain⟨s,g,rfl⟩:=hq;obtain⟨a,b,Fs2,rfl,h1,h2,_,_⟩:=Hr (show an w' _ v _ F from hc);cases h2;cases h1;exact⟨_,_,rfl,hsz,fun c hc=>hsame c hc fun _ h=>h,hos,htape,hout,rfl⟩
  | some p =>
   rw[hr] at hq;subst hq;obtain⟨a,b,Fs2,rfl,h1,h2,hf,_⟩:=Hr (show an w' _ v _ F from hc);cases h2;have h3:=h1.mono (A':=fun x=>A x\/(w.heap.size<=x/\x<w'.heap.size/\¬F x)) (fun x hx=>hx.imp_right fun h=>⟨h.1,h.2.1,h.2.2.1⟩) (fun _ _=>rfl) (fun _ _=>rfl) (hf 0)
   obtain⟨q,rfl⟩:∃q,a=.pointer (some q):=by
    cases h1;exact⟨_,rfl⟩
   exact⟨_,_,rfl,hsz,fun c hc=>hsame c hc fun _ h=>h,hos,htape,hout,rfl,F,h3,fun x hx=>⟨(hF x hx).1,(hF x hx).2.1.elim (fun h=>h) fun⟨_,h⟩=>h.elim⟩⟩
 ·rintro e w' ⟨a,b,rfl,hsz,hsame,hos,htape,hout,h⟩
  cases hr:bO t with
  | none =>
   rw[hr] at h;obtain rfl:b=false:=h;refine⟨_,fun _=>False,fun _ _=>False,rfl,hsz,HY .bp (.int (jO (k:=.i64) (n:=6) rfl)),fun j a hj=>?_,fun _ h=>h.elim,fun _ _ h=>h.elim,fun _ _ _ _ h=>h.elim,fun c hc _=>hsame c hc,hos,htape,hout⟩
   match j with
   | 0 =>
    cases hj;exact fun _ h=>h
   | _+1=>cases hj
  | some p =>
   rw[hr] at h;obtain⟨rfl,F,h1,h2⟩:=h;refine⟨_,F,fun _ _=>False,rfl,hsz,HY (h1.mono (fun x hx=>hx.imp_right fun h=>⟨h.1,h.2.1,h.2.2,fun _ h=>h⟩) (fun _ _=>rfl) (fun _ _=>rfl) fun _ h=>h) (.int (jO (k:=.i64) (n:=0) rfl)),fun j a hj=>?_,fun x hx=>⟨(h2 x hx).1,.inl (h2 x hx).2,fun _ h=>h⟩,fun _ _ h=>h.elim,fun _ _ _ _ h=>h.elim,fun c hc _=>hsame c hc,hos,htape,hout⟩
   match j with
   | 0 =>
    cases hj;exact fun _ h=>h
   | _+1=>cases hj
theorem VM(s:aa)(dt:List af)(tx:List (List ah))(g:Nat):(D.ptr (im s dt tx g)).bl=true:=by
 simp only[im,D.bl,dE,cW,kP I2,kP uf,kP (kP I3),Bool.and_self]
theorem AQ(o:Option (aa×Hs)):(iO o).bl=true:=by
 cases o with
 | none=>rfl
 | some p =>
  have:=VM p.1 p.2.dt p.2.tx p.2.gd;simp only[D.bl] at this;simp only[iO,D.bl,dE,this,Bool.and_self]
end Go.D3
namespace Go.D3
open Go
set_option maxRecDepth 100000
theorem Dj{α:Type}{l:List α}{i:Nat}{x d:α}(h:i<l.length):(l.set i x).getD i d=x:=by
 rw[List.getD_eq_getElem?_getD,List.getElem?_set_self h];rfl
theorem RU{l:List af}{i:Nat}(h:i<l.length):(((ae af.d af.zero l).ez i 0 .dead).un.dG i 1).un=aK (l.getD i af.zero).mp:=by
 show(((((l.map af.d).set i (dz ((l.map af.d).getD i (af.d af.zero)) 0 .dead)).getD i (af.d af.zero)).cells).getD 1 .dead).un=_;rw[Dj (by simpa using h),getD_map'];rfl
theorem Q2{l:List af}{i:Nat}(h:i<l.length):(((ae af.d af.zero l).ez i 1 .dead).un.dG i 0).un=ints (l.getD i af.zero).sz:=by
 show(((((l.map af.d).set i (dz ((l.map af.d).getD i (af.d af.zero)) 1 .dead)).getD i (af.d af.zero)).cells).getD 0 .dead).un=_;rw[Dj (by simpa using h),getD_map'];rfl
def vO:List Nat:=[0,2,3,4,5,6,7,8,9]
def B2:Sl:=ak Go.Proofs.Tryz.types Go.Proofs.Tryz.f10 vO [(0,35),(4,7),(7,77)]
theorem KC:aI Go.Proofs.Tryz.prog Go.Proofs.Tryz.f10 vO B2 1=true:=by decide +kernel
theorem Km(t:List UInt8)(ht:t.length<=1048576):aC Go.Proofs.Tryz.prog 10 [.v (.str t)] (JO (bO t)):=by
 refine aT Go.Proofs.Tryz.func10 KC ?_;unfold B2 ak vO;simp only[go_sem];refine ax (vN t ht) rfl (.inl (AQ _)) ?_;cases hr:bO t with
 | none =>
  simp only[iO];simp only[go_sem];exact⟨fun _=>rfl,fun h=>absurd h (by decide)⟩
 | some p =>
  obtain⟨hok,hH⟩:=jT hr;have hdl:=hH.dl;have h6:=hH.t6;have hgl:=hH.gl;have hnow:=Kr p.1 p.2.dt p.2.tx p.2.gd (by omega) (by omega);simp only[iO];unfold im at hnow|-
  simp only[go_sem];refine⟨fun h=>absurd h (by decide),fun _=>?_⟩;refine eD [6] false hnow ?_;simp only[go_sem];rw[RU (by omega)];rfl
end Go.D3
namespace Go.D3
open Go
set_option maxRecDepth 100000
theorem RI(s:aa)(dt:List af)(tx:List (List ah))(g:Nat)(h : 0<dt.length)(hl:dt.length<=4294966000):aC Go.Proofs.Tryz.prog 35 [.v (.ptr (im s dt tx g))] (dc (some (dt.getD (dt.length-1) af.zero))):=by
 unfold im;have hw:IntKind.i64.wrap ((dt.length:Int)-1)=((dt.length-1:Nat):Int):=by rw[wrap_small (by omega) (by omega)];omega
 refine aT Go.Proofs.Tryz.func35 vW ?_;unfold rY ak qa;simp only[go_sem];rw[hw];exact⟨⟨by omega,by omega⟩,rfl⟩
def xJ:List Nat:=[0,1,2,6,7,4,5,8,9,10]
def D4:Sl:=ak Go.Proofs.Tryz.types Go.Proofs.Tryz.f8 xJ []
theorem M0:aI Go.Proofs.Tryz.prog Go.Proofs.Tryz.f8 xJ D4 3=true:=by decide +kernel
theorem MI(t:List UInt8)(e r:Int)(ht:t.length<=1048576):aC Go.Proofs.Tryz.prog 8 [.v (.str t),.v (.int .i64 e),.v (.int .i64 r)] (jJ e r (bO t)):=by
 refine aT Go.Proofs.Tryz.func8 M0 ?_;unfold D4 ak xJ;simp only[go_sem];refine s8 (vN t ht) rfl (.inl (AQ _)) ?_;cases hr':bO t with
 | none =>
  simp only[iO];simp only[go_sem];exact⟨fun _=>rfl,fun h=>absurd h (by decide)⟩
 | some p =>
  obtain⟨hok,hH⟩:=jT hr';have hs:=eQ (eK hok).1;have hdl:=hH.dl;have h6:=hH.t6;have hgl:=hH.gl;have hf8:=hs.f8;have hnd:=hH.last.nd;have hnow:=RI p.1 p.2.dt p.2.tx p.2.gd (by omega) (by omega);have hw:IntKind.i64.wrap ((p.1.fr.length:Int)-1)=(p.1.fr.length:Int)-1:=wrap_small (by omega) (by omega);simp only[iO];unfold im at hnow|-
  simp only[go_sem];refine⟨fun h=>absurd h (by decide),fun _=>?_⟩;rw[hw];refine ax (iS _ _ _) rfl (.inl rfl) ?_;simp only[go_sem];have hlast:p.2.dt.getD (p.2.dt.length-1) af.zero=p.2.last:=rfl;rw[hlast] at hnow;refine FC (res':=af.d p.2.last) (fun _=>hnow) rfl rfl (fun h=>h) (.inr trivial) ?_;simp only[go_sem];have hr:=fun h=>IQ hs hH.last (e:=e) h
  have z1:=Iz hH.last (p.1.fr.getD e.toNat 0).toNat;have z2:=uh hH.last (p.1.fr.getD e.toNat 0).toNat;rw[wrap_small (n:=p.2.last.sz.getD (p.1.fr.getD e.toNat 0).toNat 0-1) (by omega) (by omega)];refine⟨fun h=>⟨h,(hr h).1⟩,fun h=>⟨h,(hr h).2⟩,bG (fun _=>iS _ _ _) rfl (fun h=>h) (.inl rfl) ?_⟩
  have hr2:aL r 0 (p.2.last.sz.getD (p.1.fr.getD e.toNat 0).toNat 0-1)=true->0<=r/\r<p.2.last.sz.getD (p.1.fr.getD e.toNat 0).toNat 0:=fun h=>by
   simp only[aL,Bool.and_eq_true,decide_eq_true_eq] at h;omega
  have hb:rW p e r=(aL e 0 ((p.1.fr.length:Int)-1)&&aL r 0 (p.2.last.sz.getD (p.1.fr.getD e.toNat 0).toNat 0-1)):=rfl;generalize aL e 0 ((p.1.fr.length:Int)-1)=b1 at *;generalize aL r 0 (p.2.last.sz.getD (p.1.fr.getD e.toNat 0).toNat 0-1)=b2 at *;simp only[go_sem];refine⟨fun h=>by simpa using h,fun h=>by simp only[jJ,hb];rw[if_neg (by revert h;cases b1<;>cases b2<;>decide)],fun h=>?_⟩;have hb1:b1=true:=by revert h;cases b1<;>cases b2<;>decide
  have hb2:b2=true:=by revert h;cases b1<;>cases b2<;>decide
  obtain⟨⟨e0,e1⟩,e2⟩:=hr hb1;obtain⟨r0,r1⟩:=hr2 hb2;have hln:=hH.last.len e.toNat (by have:=hH.last.mp;omega);have hset:=HI hr' (e:=e.toNat) (i:=r.toNat) (by omega) (by unfold af.ln;omega);rw[Int.toNat_of_nonneg e0,Int.toNat_of_nonneg r0] at hset;obtain⟨s1,s2,-⟩:=hset
  have hres:jJ e r (some p)=.au [.int .i64 (eC p.2.tx e r p.2.tx.length),.int .i64 0]:=by
   simp only[jJ,hb];rw[if_pos (by rw[hb1,hb2];rfl)]
  rw[wrap_small (n:=(p.2.tx.length:Int)-1) (by omega) (by omega)];refine aG [] (fun(j:Nat)=>[(9,.int .i64 ((j:Int)-1))]) (fun j=>j<=p.2.tx.length/\eC p.2.tx e r j=eC p.2.tx e r p.2.tx.length) (fun j=>j) p.2.tx.length (by simp only[go_sem];rfl) ⟨Nat.le_refl _,rfl⟩ rfl ?_;rintro j ⟨hj,hI⟩;simp only[go_sem];refine⟨fun h1=>⟨by omega,?_⟩,fun h1=>?_⟩
  ·obtain⟨q,rfl⟩:∃q,j=q+1:=⟨j-1,by omega⟩
   have hq:(((q+1:Nat):Int)-1)=q:=by omega
   have hrl:=hH.tl (p.2.tx.getD q []) (oX (by omega));simp only[hq,Int.toNat_natCast];refine ax (JX (p.2.tx.getD q []) e r (by omega)) rfl (.inl rfl) ?_;simp only[go_sem];rw[eC] at hI;refine⟨fun h2=>?_,fun h2=>⟨q,⟨by omega,?_⟩,by omega,by rw[wrap_small (n:=(q:Int)-1) (by omega) (by omega)]⟩⟩
   ·rw[if_pos h2] at hI
    rw[hres,<-hI,aN (i:=q) (n:=p.2.tx.length) (by omega) (by simp only[maxLen];omega)]
   ·rw[if_neg (by rw[h2];decide)] at hI
    exact hI
  ·exfalso
   rw[show j=0 by omega] at hI;rw[<-hI] at s1;exact absurd s1 (Nat.lt_irrefl _)
end Go.D3
namespace Go.D3
open Go
set_option maxRecDepth 100000
def u6(k:Int):Option (aa×Hs)->D
 | some p=>if aL k 0 p.2.tx.length=true then .au [ints (p.2.dt.getD k.toNat af.zero).sz,aK (p.2.dt.getD k.toNat af.zero).mp,.int .i64 0] else .au [ints [],aK [],.int .i64 2]
 | none=>.au [ints [],aK [],.int .i64 6]
theorem fU.at'{s:aa}{t:List UInt8}{H:Hs}(h:fU s t H){i:Nat}(hi:i<H.dt.length):bX s (H.dt.getD i af.zero):=by
 rw[aS hi];exact h.vn _ (List.getElem_mem _)
end Go.D3
