/- THE END OF (journalText).read: the deferred call, then the results. -/
import Derived.Test.YtpnchponfnbmiaaGreatDoorGBE
import Derived.Test.YtpnchponfnbmiaaGreatDoorGBC
namespace Go.D3
open Go
set_option maxRecDepth 100000
set_option maxHeartbeats 4000000
def pB(b:Nat):Value:=.pointer (some ⟨b,0,none⟩)
def xb(v:Value)(n:Nat):Nat->Value
 | 0=>v
 | 1=>pB n
 | 2=>.bool false
 | 3=>pB (n+2)
 | 9=>pB (n+1)
 | 10=>pB (n+2)
 | 11=>pB n
 | _=>undef
def sJ(n:Nat)(k b:Nat):Prop:=(k=9/\b=n+1)\/(k=10/\b=n+2)\/(k=11/\b=n)
def nA(v:Value)(w:World)(A:Nat->Prop)(hA:∀b,A b->b<w.heap.size)(hg:fb w A):Ctx:=⟨w,fun _=>False,A,xb v w.heap.size,fun b hb=>⟨hA b hb,fun h=>h⟩,hg,[⟨.fn (.func 131) #[pB (w.heap.size+2),pB w.heap.size],#[]⟩]⟩
def lg(t:List UInt8):List D:=[.str t,.av 11 [(0,0)],.bool false,.av 10 [(0,0)],.dead,.dead,.dead,.dead,.dead,.box (cE ⟨0,[],[],[],[]⟩ [] [] 0),.box [.int .i64 0],.box [.av 9 [(0,0)]]]
def w4:List Nat:=[0,2,3,4,5,6,7,8,9]
theorem uX(t:List UInt8)(k:Nat):(⟨lg t,0,[]⟩:St).cont k=nth (lg t) k:=by
 rw[qD];by_cases hk:k<1000
 ·rw[if_pos hk]
 ·rw[if_neg hk,gH]
  show 12<=k;omega
structure W3(w W:World):Prop where
 sz:W.heap.size=w.heap.size+3
 h0:W.heap[w.heap.size]?=some (.cells #[pB (w.heap.size+1)] 112 (0,0))
 h1:W.heap[w.heap.size+1]?=some (.cells nO 118 (0,0))
 h2:W.heap[w.heap.size+2]?=some (.cells #[.int .i64 0] 3 (0,0))
 old:∀b,b<w.heap.size->W.heap[b]?=w.heap[b]?
 os:W.os=w.os
 tape:W.tape=w.tape
 output:W.output=w.output
theorem Ol{w W:World}{A:Nat->Prop}{t:List UInt8}{v:Value}{hA:∀b,A b->b<w.heap.size}{hg:fb w A}{T:Array Value}(hW:W3 w W)(hv:Rd w A v (.str t))(hs:T.size=77)(h0:T.getD 0 undef=v)(h2:T.getD 2 undef=pB w.heap.size)(h3:T.getD 3 undef=.bool false)(h4:T.getD 4 undef=pB (w.heap.size+2))
  (h5:T.getD 5 undef=undef) (h6:T.getD 6 undef=undef) (h7:T.getD 7 undef=undef) (h8:T.getD 8 undef=undef) (h9:T.getD 9 undef=undef) :
  Bm (nA v w A hA hg) 77 w4 (lg t) { tmps:=T,defers:=(nA v w A hA hg).sA } W:=by
 refine⟨⟨xb v w.heap.size,sJ w.heap.size,fun _=>False,?_,?_,fun i t hi _=>by simp at hi,fun _ _ _=>rfl⟩,rfl,fun j hj=>by simp at hj,hs,rfl⟩
 ·have aM:∀b,A b->aq (nA v w A hA hg) (sJ w.heap.size) (fun _=>False) W b:=fun b hb=>by
   have:=hA b hb;have:=hW.sz;refine⟨⟨by omega,fun _=>hb⟩,fun h=>h,fun k hk=>?_⟩;unfold sJ at hk;omega
  have c9:(⟨lg t,0,[]⟩:St).cont 9=.box (cE ⟨0,[],[],[],[]⟩ [] [] 0):=uX t 9;have c10:(⟨lg t,0,[]⟩:St).cont 10=.box [.int .i64 0]:=uX t 10;have c11:(⟨lg t,0,[]⟩:St).cont 11=.box [.av 9 [(0,0)]]:=uX t 11
  have av:∀(k b:Nat)(l:List D),(⟨lg t,0,[]⟩:St).cont k=.box l->0<l.length->xb v w.heap.size k=pB b->lQ W (⟨lg t,0,[]⟩:St).cont (xb v w.heap.size) (pB b) k [(0,0)]:=fun k b l hc hl hv=>by
   refine⟨?_,?_⟩
   ·rw[hc]
    exact⟨rfl,hl,trivial⟩
   ·rw[hc,hv]
    exact⟨_,rfl,rfl⟩
  refine⟨fun k=>?_,fun i j hij b hi hj=>?_,fun _ _ _ h=>h,fun k hk b hb=>?_,fun k b hb=>?_,fun _ h=>h.elim,?_,fun b hb _=>hW.old b hb,hW.os,hW.tape,rq hW.output⟩
  ·rw[uX]
   match k with
   | 0=>exact .rd (hv.mono aM fun b hb=>hW.old b (hA b hb))
   | 1=>exact .ref (av 11 _ _ c11 (by decide) rfl)
   | 2=>exact .rd .bool
   | 3=>exact .ref (av 10 _ _ c10 (by decide) rfl)
   | 4=>exact Pl.dead
   | 5=>exact Pl.dead
   | 6=>exact Pl.dead
   | 7=>exact Pl.dead
   | 8=>exact Pl.dead
   | 9 =>
    refine⟨by decide,_,nO,118,fun _ _=>False,rfl,hW.h1,rfl,fun j c hj=>?_,.inl ⟨rfl,rfl⟩,fun _ _ h=>h.elim,fun _ _ _ _ h=>h.elim⟩
    match j with
    | 0=>cases hj;exact .rd (.int (jM (k:=.i64) (n:=0) rfl))
    | 1=>cases hj;exact .nil
    | 2=>cases hj;exact .nil
    | 3=>cases hj;exact .nil
    | 4=>cases hj;exact .nil
    | 5=>cases hj;exact .nil
    | 6=>cases hj;exact .nil
    | 7=>cases hj;exact .rd (.int (jM (k:=.i64) (n:=0) rfl))
    | _+8=>cases hj
   | 10 =>
    refine⟨by decide,_,#[.int .i64 0],3,fun _ _=>False,rfl,hW.h2,rfl,fun j c hj=>?_,.inr (.inl ⟨rfl,rfl⟩),fun _ _ h=>h.elim,fun _ _ _ _ h=>h.elim⟩
    match j with
    | 0=>cases hj;exact .rd (.int (jM (k:=.i64) (n:=0) rfl))
    | _+1=>cases hj
   | 11 =>
    refine⟨by decide,_,#[pB (w.heap.size+1)],112,fun _ _=>False,rfl,hW.h0,rfl,fun j c hj=>?_,.inr (.inr ⟨rfl,rfl⟩),fun _ _ h=>h.elim,fun _ _ _ _ h=>h.elim⟩
    match j with
    | 0=>cases hj;exact Pl.ref (av 9 _ _ c9 (by decide) rfl)
    | _+1=>cases hj
   | k+12 =>
    rw[gH (lg t) (k+12) (by show 12<=k+12;omega)];exact Pl.dead
  ·unfold sJ at hi hj;omega
  ·rcases hb with⟨rfl,_⟩ | ⟨rfl,_⟩ | ⟨rfl,_⟩
   ·rw[c9] at hk;cases hk
   ·rw[c10] at hk;cases hk
   ·rw[c11] at hk;cases hk
  ·have:=hW.sz
   unfold sJ at hb;exact⟨by omega,.inr (by show w.heap.size<=b;omega)⟩
  ·have:=hW.sz
   show w.heap.size<=_;omega
 ·intro j t hj _
  match j with
  | 0=>cases hj;exact h0
  | 1=>cases hj;exact h2
  | 2=>cases hj;exact h3
  | 3=>cases hj;exact h4
  | 4=>cases hj;exact h5
  | 5=>cases hj;exact h6
  | 6=>cases hj;exact h7
  | 7=>cases hj;exact h8
  | 8=>cases hj;exact h9
  | _+9=>cases hj
end Go.D3
namespace Go.D3
open Go Proofs
set_option maxRecDepth 100000
set_option maxHeartbeats 4000000
def Gw(s:aa)(dt:List ak)(tx:List (List az))(g:Int):List D:=[.int .i64 s.nd,ints s.fr,ints s.to,ae U.d U.zero s.lf,ae U.d U.zero s.rt,ae ak.d ak.zero dt,ae (ae az.d az.zero) [] tx,.int .i64 g]
def FI(w:World)(A:Nat->Prop)(b:Bool)(L:List D)(e:Ending)(w2:World):Prop:=∃(v:Value)(F:Nat->Prop),e=.returned v/\w.heap.size<=w2.heap.size/\aj w2 (fun x=>A x\/(w.heap.size<=x/\x<w2.heap.size/\¬F x)) v (.al [.ptr L,.bool b]) F /\
 (∀x,F x->x<w2.heap.size/\w.heap.size<=x)/\(∀x,x<w.heap.size->w2.heap[x]?=w.heap[x]?)/\w2.os=w.os/\w2.tape=w.tape/\w2.output=w.output
theorem Ae{a b:Nat}(h:pB a=pB b):a=b:=by
 unfold pB at h;simpa using h
theorem I9{w w':World}{A:Nat->Prop}{t:List UInt8}{v:Value}{hA:∀b,A b->b<w.heap.size}{hg:fb w A}{a:Act}{R:Ending->World->Prop}{b:Bool}{g:Int}{x y z u v0:D}{s:aa}{dt:List ak}{tx:List (List az)}
  (hB:Bm (nA v w A hA hg) 77 w4 [.str t,.av 11 [(0,0)],.bool b,.av 10 [(0,0)],x,y,z,u,v0,.box (cE s dt tx 0),.box [.int .i64 g],.box [.av 9 [(0,0)]]] a w') (hR:∀e w2,FI w A b (Gw s dt tx g) e w2->R e w2) :
  Leaves Tryz.prog Tryz.f106 a.tmps R a.defers .returning w':=by
 rw[hB.defers];obtain⟨vl,fp,G,hp,htr,_,hgh⟩:=hB.ex;have g9:vl 9=pB (w.heap.size+1):=by exact hgh 9 (Nat.le_refl _) (by decide)
 have g10:vl 10=pB (w.heap.size+2):=by exact hgh 10 (by decide) (by decide)
 have g11:vl 11=pB w.heap.size:=by exact hgh 11 (by decide) (by decide)
 obtain⟨_,b9,cs9,e9,Fs9,hv9,hb9,hs9,hc9,hF9,hf9,hd9⟩:=(show qh w' _ _ (vl 9) (fp 9) (cE s dt tx 0) from hp.ok 9);obtain⟨_,b10,cs10,e10,Fs10,hv10,hb10,hs10,hc10,hF10,hf10,hd10⟩:=(show qh w' _ _ (vl 10) (fp 10) [.int .i64 g] from hp.ok 10);obtain⟨_,b11,cs11,e11,Fs11,hv11,hb11,hs11,hc11,hF11,hf11,hd11⟩:=(show qh w' _ _ (vl 11) (fp 11) [.av 9 [(0,0)]] from hp.ok 11);rw[g9] at hv9;rw[g10] at hv10;rw[g11] at hv11;obtain rfl:=Ae hv9;obtain rfl:=Ae hv10;obtain rfl:=Ae hv11;have hnn:w.heap.size<=w'.heap.size:=by exact hp.size
 have av:∀{val:Value}{k bb:Nat}{l:List D},lQ w' (⟨[.str t,.av 11 [(0,0)],.bool b,.av 10 [(0,0)],x,y,z,u,v0,.box (cE s dt tx 0),.box [.int .i64 g],.box [.av 9 [(0,0)]]],0,[]⟩:St).cont vl val k [(0,0)]->(⟨[.str t,.av 11 [(0,0)],.bool b,.av 10 [(0,0)],x,y,z,u,v0,.box (cE s dt tx 0),.box [.int .i64 g],.box [.av 9 [(0,0)]]],0,[]⟩:St).cont k=.box l->vl k=pB bb->val=pB bb:=fun {val k bb l} h h1 h2=>by
  obtain⟨_,ad,h3,h4⟩:=h;rw[h1,h2] at h3;rw[h4];have:aH w' (pB bb) (.box l) [(0,0)]=some ⟨bb,0,none⟩:=rfl;rw[this] at h3;cases h3;rfl
 have t2:a.tmps.getD 2 undef=pB w.heap.size:=(htr 1 2 rfl rfl).trans (av (fG (hp.ok 1)) rfl g11);have t3:a.tmps.getD 3 undef=.bool b:=(htr 2 3 rfl rfl).trans (pl_bool (hp.ok 2));have k0:cs11.getD 0 undef=pB (w.heap.size+1):=av (fG (hc11 0 _ rfl)) rfl g9;have k2:cs10.getD 0 undef=.int .i64 g/\IntKind.i64.has g:=ek (hc10 0 _ rfl);have c0:w'.cell? ⟨w.heap.size,0,none⟩=some (pB (w.heap.size+1)):=by rw[<-k0];exact dU hb11 (by rw[hs11];decide)
 have c2:w'.cell? ⟨w.heap.size+2,0,none⟩=some (.int .i64 g):=by rw[<-k2.1];exact dU hb10 (by rw[hs10];exact Nat.zero_lt_one)
 have c1:w'.cell? ⟨w.heap.size+1,7,none⟩=some (cs9.getD 7 undef):=dU hb9 (by rw[hs9];show 7<8;decide);have hz:w'.frozen? ⟨w.heap.size+1,7,none⟩=false:=by simp[World.frozen?,hb9]
 refine leaves_cons (f:=131) (args:=#[pB (w.heap.size+2),pB w.heap.size]) (fun h=>by cases h) ?_ (CallsD.mono (WT w.heap.size (w.heap.size+1) (w.heap.size+2) g _ .returning w' c0 c2 c1 hz) ?_)
 ·rfl
 rintro e u' w2 ⟨rfl,rfl,rfl⟩;have hr0:w'.heap.size<=(w'.setCell ⟨w.heap.size+1,7,none⟩ (.int .i64 g)).heap.size:=by simp
 have hr1:(w'.setCell ⟨w.heap.size+1,7,none⟩ (.int .i64 g)).heap.size=w'.heap.size:=by simp
 have c0':(w'.setCell ⟨w.heap.size+1,7,none⟩ (.int .i64 g)).cell? ⟨w.heap.size,0,none⟩=some (pB (w.heap.size+1)):=by
  have:=c0;simp only[World.cell?] at this|-
  rw[tQ _ (by show w.heap.size≠w.heap.size+1;omega)];exact this
 have hoth:∀c,c≠w.heap.size+1->(w'.setCell ⟨w.heap.size+1,7,none⟩ (.int .i64 g)).heap[c]?=w'.heap[c]?:=fun c hc=>tQ _ hc
 have hblk:=wK (j:=7) (.int .i64 g) hb9;have hos:(w'.setCell ⟨w.heap.size+1,7,none⟩ (.int .i64 g)).os=w'.os/\(w'.setCell ⟨w.heap.size+1,7,none⟩ (.int .i64 g)).tape=w'.tape/\(w'.setCell ⟨w.heap.size+1,7,none⟩ (.int .i64 g)).output=w'.output:=⟨rfl,rfl,rfl⟩;generalize(w'.setCell ⟨w.heap.size+1,7,none⟩ (.int .i64 g))=w2 at hr0 hr1 c0' hoth hblk hos;show Leaves _ _ _ _ [] .returning w2;refine⟨.tuple #[pB (w.heap.size+1),.bool b],?_,hR _ _ ⟨_,fun c=>fp 9 c,rfl,by omega,?_,fun c hc=>?_,fun c hc=>?_,?_,?_,?_⟩⟩
 ·refine AJ (fn:=Tryz.f106) (vs:=[pB (w.heap.size+1),.bool b]) ?_
  show(List.mapM (ot a.tmps) [.cell 2 112,.tmp 3]).run _ _=_;simp only[List.mapM_cons,List.mapM_nil,ot,t2,t3]
  have hl:(loadVar 112 ⟨w.heap.size,0,none⟩).run Tryz.prog w2=.ok (pB (w.heap.size+1)) w2:=by
   simp[loadVar,vt (show j0 Tryz.prog 112=true by decide +kernel),c0']
  simp[asAddr,pB] at hl|-
  simp[hl]
 ·refine aj.al (fun j c=>j=0/\fp 9 c) rfl (fun j d hj=>?_) (fun j c hc=>hc.2) (fun i j c hij hi hj=>hij (hi.1.trans hj.1.symm))
  match j with
  | 0 =>
   cases hj
   have stb:∀c,aq (nA v w A hA hg) fp G w' c->(A c\/(w.heap.size<=c/\c<w2.heap.size/\¬fp 9 c))/\c≠w.heap.size+1:=fun c hc=>by
    refine⟨?_,fun he=>hc.2.2 9 (he▸hF9)⟩;by_cases hlt:c<w.heap.size
    ·exact .inl (hc.1.2 hlt)
    ·exact .inr ⟨by omega,by rw[hr1];exact hc.1.1,hc.2.2 9⟩
   refine aj.ptr (fun j c=>j≠7/\Fs9 j c) hblk (by rw[Array.size_setIfInBounds];exact hs9) (fun j d hj=>?_) ⟨rfl,hF9⟩ (fun j c hc=>⟨(hf9 j c hc.2).1,rfl,(hf9 j c hc.2).2⟩) (fun i j c hij hi hj=>hd9 i j c hij hi.2 hj.2)
   have own:∀{i:Nat}{xx:D},i≠7->aj w' (aq (nA v w A hA hg) fp G w') (cs9.getD i undef) xx (Fs9 i)->aj w2 (fun c=>A c\/(w.heap.size<=c/\c<w2.heap.size/\¬fp 9 c)) ((cs9.setIfInBounds 7 (.int .i64 g)).getD i undef) xx (fun c=>i≠7/\Fs9 i c):=fun {i xx} h7 h=>by
    rw[getD_set_ne _ (Ne.symm h7)];exact h.mono (fun c hc=>(stb c hc).1) (fun c hc=>hoth c (stb c hc).2) (fun c hc=>hoth c (hf9 i c hc).1) (fun c hc=>⟨h7,hc⟩)
   match j with
   | 0 =>
    cases hj;obtain⟨e1,e2⟩:=ek (hc9 0 _ rfl);rw[getD_set_ne _ (by decide)];show aj _ _ (cs9.getD 0 undef) _ _;rw[e1];exact .int e2
   | 1=>cases hj;exact own (by decide) (hc9 1 _ rfl)
   | 2=>cases hj;exact own (by decide) (hc9 2 _ rfl)
   | 3=>cases hj;exact own (by decide) (hc9 3 _ rfl)
   | 4=>cases hj;exact own (by decide) (hc9 4 _ rfl)
   | 5=>cases hj;exact own (by decide) (hc9 5 _ rfl)
   | 6=>cases hj;exact own (by decide) (hc9 6 _ rfl)
   | 7 =>
    cases hj;rw[o6 _ (by rw[hs9];show 7<8;decide)];exact .int k2.2
   | _+8=>cases hj
  | 1=>cases hj;exact .bool
  | _+2=>cases hj
 ·have:=hp.lt 9 c hc
  rw[hr1];exact⟨this.1,this.2.elim (fun h=>h.elim) (fun h=>h)⟩
 ·rw[hoth c (by omega)]
  exact hp.same c hc fun h=>h
 ·rw[hos.1];exact hp.os
 ·rw[hos.2.1];exact hp.tape
 ·rw[hos.2.2];exact hp.output.1
end Go.D3
