/- A RESULT THAT IS ONLY READ FROM NOW ON, of a function to which a source of draws is lent. Generic. -/
import Derived.Test.YtaknpcdnmecblaaGreatDoorProg
import Derived.Test.YtaknpcdnmecblaaGreatDoorHG
import Derived.Test.YtaknpcdnmecblaaGreatDoorGAC
namespace Go.D3
open Go Proofs
set_option maxHeartbeats 4000000
set_option maxRecDepth 100000
theorem Rz{α:Type}{f:α->D}{d:α}{l:List α}{k:Nat}{p:Path}:pt k p (ae f d l)=ae f d l:=rfl
attribute [go_sem] Rz
def bR(c:List Int)(a:Nat)(h:Int):D:=.box [ae (D.int .u8) 0 c,.int .i64 a,.int .u64 h]
def ij(c:List Int):Prop:=c.length<=4096/\∀i,i<c.length->0<=c.getD i 0/\c.getD i 0<256
def Da:List Nat:=[0,2,3,4]
def Lc:Sl:=ah Tryz.types Tryz.f36 Da [(3,2),(9,0),(11,11)]
theorem UQ:aE Tryz.prog Tryz.f36 Da Lc 1=true:=by decide +kernel
theorem YQ(c:List Int)(I:ij c):bn Tryz.prog 36 [ae (D.int .u8) 0 c] [] (fun rc gs=>gs=[]/\∃h,rc=bR c 0 h):=by
 unfold bR;refine dB .vn Tryz.func36 UQ ?_;unfold Lc ah Da;simp only[go_sem];refine au [] (fun(p:Nat×Int)=>[(2,.box [ae (D.int .u8) 0 c,.int .i64 0,.int .u64 p.2]),(3,.int .i64 p.1)]) (fun p=>p.1<=c.length) (fun p=>c.length-p.1) (0,_) (by simp only[go_sem];rfl) (Nat.zero_le _) rfl ?_;rintro⟨i,h⟩ hi;simp only at hi;have S:=I.1;simp only[go_sem];refine⟨fun h1=>?_,fun h1=>⟨_,_,⟨rfl,_,rfl⟩,rfl,rfl,trivial⟩⟩;simp only[Bool.and_eq_true,decide_eq_true_eq] at h1;exact⟨h1.1,(i+1,_),h1.1,by show c.length-(i+1)<c.length-i;omega,by rw[aw h1.1 (by simp only[maxLen];omega)]⟩
theorem aaA{q:D->Bool}{c:List Int}{a:Nat}{h:Int}:(bR c a h).kill q=bR c a h:=rfl
theorem aaC{σ:Nat->Nat}{c:List Int}{a:Nat}{h:Int}:(bR c a h).aD σ=bR c a h:=rfl
theorem aaB{k:Nat}{c:List Int}{a:Nat}{h:Int}:cB k (bR c a h)=.aG k [(0,0)]:=rfl
attribute [go_sem] aaA aaC aaB
theorem aaD{c c':List Int}{a I:Nat}{h S:Int}:uH (bR c a h) (bR c' I S)=true:=rfl
attribute [go_sem] aaD
theorem N5(x:Int):∃m:Nat,m<=16777215/\xX .u64 x 16777215=m/\IntKind.i64.wrap m=m:=by
 unfold xX
 have h:(BitVec.ofInt IntKind.u64.bits x &&& BitVec.ofInt IntKind.u64.bits 16777215).toNat<=16777215:=by
  rw[BitVec.toNat_and];exact Nat.le_trans Nat.and_le_right (by decide)
 generalize(BitVec.ofInt IntKind.u64.bits x &&& BitVec.ofInt IntKind.u64.bits 16777215).toNat=m at h|-
 refine⟨m,h,lA ⟨?_,?_⟩,wrap_small (by omega) (by omega)⟩
 ·simp[IntKind.min,IntKind.signed]
 ·simp[IntKind.max,IntKind.signed,IntKind.bits];omega
theorem M6{x n:Int}(I : 0<=x)(S:¬n<1) : 0<=x.tmod n/\(n<1->x.tmod n=0)/\(1<=n->x.tmod n<n) :=
 ⟨Int.tmod_nonneg n I,fun h=>absurd h S,fun h=>Int.tmod_lt_of_pos x (by omega)⟩
def ND(c:List Int)(n:Int)(rc:D)(gs:List D):Prop:=∃(a:Nat)(h x:Int),a<=c.length/\(0<=x/\(n<1->x=0)/\(1<=n->x<n))/\rc=.int .i64 x/\gs=[bR c a h]
def Dg:List Nat:=[0,1,4,5]
def Li:Sl:=ah Tryz.types Tryz.f84 Dg []
theorem UX:aE Tryz.prog Tryz.f84 Dg Li 2=true:=by decide +kernel
theorem cN{c:List Int}(V:ij c){a:Nat}{h:Int}(S:a<=c.length)(n:Int):bn Tryz.prog 84 [.aG 0 [(0,0)],.int .i64 n] [bR c a h] (ND c n):=by
 have hl:=V.1;unfold bR;refine dB .tree Tryz.func84 UX ?_;unfold Li ah Dg;simp only[go_sem];obtain⟨m,hm,W,Y⟩:=N5 ((IntKind.u64.wrap (IntKind.u64.wrap (h*6364136223846793005)+1442695040888963407)).fdiv (2 ^ Int.toNat 33));simp only[W,Y];refine⟨fun h1=>⟨_,_,⟨a,h,0,S,⟨Int.le_refl _,fun _=>rfl,fun h=>by omega⟩,rfl,rfl⟩,rfl,rfl,rfl,trivial⟩,fun h1=>⟨⟨by decide,by decide⟩,fun I=>?_,fun I=>?_⟩⟩
 ·have Z:=V.2 a I
  rw[wrap_small (n:=c.getD a 0) (by omega) (by omega),wrap_small (n:=(m:Int)+c.getD a 0) (by omega) (by omega)];exact⟨I,by omega,_,_,⟨a+1,_,_,I,M6 (by omega) h1,rfl,rfl⟩,rfl,rfl,by rw[aw I (by simp only[maxLen];omega)];rfl,trivial⟩
 ·exact⟨by omega,_,_,⟨a,_,_,S,M6 (by omega) h1,rfl,rfl⟩,rfl,rfl,rfl,trivial⟩
def NI(c l:List Int)(rc:D)(gs:List D):Prop:=∃(a:Nat)(h:Int)(k:Nat),a<=c.length/\k<l.length/\rc=.int .i64 (l.getD k 0)/\gs=[bR c a h,.o (ints l)]
def Dk:List Nat:=[0,1,4]
def Lm:Sl:=ah Tryz.types Tryz.f87 Dk [(0,84)]
theorem U1:aE Tryz.prog Tryz.f87 Dk Lm 2=true:=by decide +kernel
theorem JD{c:List Int}(Y:ij c){a:Nat}{h:Int}(W:a<=c.length)(l:List Int)(Z : 0<l.length):bn Tryz.prog 87 [.aG 0 [(0,0)],.sub 1 []] [bR c a h,.o (ints l)] (NI c l):=by
 refine dB .tree Tryz.func87 U1 ?_;unfold Lm ah Dk;simp only[go_sem];refine bj [3] false (cN Y W l.length) ?_;rintro _ _ ⟨S,V,x,I,⟨x0,-,x1⟩,rfl,rfl⟩;refine⟨(by repeat(first | exact trivial | refine⟨(fun h=>by cases h),?_⟩)),(fun h=>by cases h),?_⟩;simp only[go_sem];obtain⟨k,rfl⟩:∃k:Nat,x=k:=⟨x.toNat,by omega⟩;simp only[Int.toNat_natCast];exact⟨⟨by omega,by omega⟩,_,_,⟨S,V,k,I,by omega,rfl,rfl⟩,rfl,rfl,rfl,rfl,trivial⟩
theorem aaI{s:List UInt8}:(D.str s).cells=[D.str s]:=rfl
theorem aaJ{L:List (List UInt8)}{k:Nat}:(L.map D.str).getD k (.str [])=.str (L.getD k []):=getD_map' _ _ _ _
end Go.D3
namespace Go.D3
open Go
theorem bn.freeze[Mode]{P:Program}{f:FuncId}{xs:List D}{c:List Int}{a:Nat}{h0:Int}{Q:D->List D->Prop}(h:bn P f xs [bR c a h0] Q)
  (hQ:∀rc W,Q rc W->(∃d,rc=.o d/\d.strip.vy.cL=true)/\∃a' h',W=[bR c a' h']):bn P f xs [bR c a h0] fun rc W=>∃d,Q (.o d) W/\rc=d.strip.vy:=by
 refine⟨h.1,fun w A vs gv Fs g0 h1 h2 h3 h4 h5 h6 h7=>?_⟩;obtain⟨hl,b,cs,e,Gs,hv,ag,b9,ad,b1,-,-⟩:=h4 0;have Y:∀k x,(k=0/\x=b)->Fs k x:=by rintro k x ⟨rfl,rfl⟩;exact b1
 refine(h.2 w A vs gv (fun k x=>k=0/\x=b) g0 h1 h2 h3 (fun k=>?_) (fun k hk x S=>?_) (fun i j x b3 h8 h9=>b3 (h8.1.trans h9.1.symm)) (fun k x S=>h7 k x (Y k x S))).mono ?_
 ·cases k with
  | zero =>
   refine⟨hl,b,cs,e,fun _ _=>False,hv,ag,b9,fun j c V=>?_,⟨rfl,rfl⟩,fun _ _ h=>h.elim,fun _ _ _ _ h=>h.elim⟩;have hc:=ad j c V
   match j,V with
   | 0,V=>cases V;exact hc
   | 1,V=>cases V;exact hc
   | 2,V=>cases V;exact hc
  | succ k=>exact h4 (k+1)
 ·obtain⟨rfl,-⟩:=S
  cases hk
 rintro e w' ⟨rc,W,v,F,ax,ab,hq,he,bT,hc,cc,a6,a7,a8,hF,Z,a1,ao,b5⟩;obtain⟨⟨d,rfl,b4⟩,a',h',rfl⟩:=hQ _ _ hq;have bg:ax 0=gv 0:=a8 0 (by intro hh;cases hh);obtain⟨_,b2,_,_,_,I,_,_,_,b0,_,_⟩:=a6 0;rw[bg,hv] at I;injection I with I
 injection I with I
 injection I with I
 subst I
 have bF:∀x,F x->w.heap.size<=x:=fun x S=>by
  rcases(hF x S).2.1 with h | ⟨j,-,rfl⟩
  ·exact h
  ·exact absurd b0 ((hF _ S).2.2 0)
 have hA:∀x,(A x\/(w.heap.size<=x/\x<w'.heap.size/\¬F x/\∀j,¬ab j x))->A x\/(w.heap.size<=x/\x<w'.heap.size/\¬False/\∀j,¬ab j x):=fun x S=>S.imp id fun h=>⟨h.1,h.2.1,id,h.2.2.2⟩
 refine⟨_,_,v,fun _=>False,ax,ab,⟨d,hq,rfl⟩,he,bT,?_,fun _ _ h=>h,fun k=>?_,a7,fun k hk=>a8 k hk,fun _ h=>h.elim,fun j x S=>⟨(Z j x S).1,(Z j x S).2.imp id fun⟨j,V⟩=>⟨j,Y j x V⟩⟩,a1,fun x S hn=>ao x S fun j V=>hn j (Y j x V),b5⟩
 ·refine(qc b4).2 (.rd (I2 (Rd.strip (aq.rd hc hA fun x S=>.inr ⟨bF x S,(hF x S).1,id,(hF x S).2.2⟩))))
 ·exact(a6 k).mono (Q:=fun _=>True) hA (fun _ _=>rfl) (fun _ _=>rfl) (fun _ h=>h) (bw (fun _=>trivial) _) fun _ _ _ h=>h
end Go.D3
