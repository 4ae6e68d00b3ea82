/- CONTRACTS: whether a thing is a set functor, by the program. -/
import Derived.Test.YtaknpcdnmecblaaGreatDoorGAP
import Derived.Test.YtaknpcdnmecblaaGreatDoorGAC
import Derived.Test.YtaknpcdnmecblaaGreatDoorGAM
namespace Go.D3
open Go Proofs
set_option maxHeartbeats 4000000
set_option maxRecDepth 100000
def Cr:List Nat:=[0,2,3,4,5,45,46,47]
def Kt:Sl:=ah Tryz.types Tryz.f112 Cr []
theorem T7:aE Tryz.prog Tryz.f112 Cr Kt 1=true:=by decide +kernel
theorem Yk(f:Sf):aA Tryz.prog 112 [.v (.ptr f.cells)] (.bool f.dN):=by
 refine aQ Tryz.func112 T7 ?_;unfold Kt ah Cr;simp only[go_sem];refine ra (bs:=[.ptr f.ay.cells]) (Jq f.ay) rfl ⟨.inr ⟨5,_,rfl,rfl⟩,trivial⟩ (.inl rfl) ?_;simp only[go_sem];refine⟨fun h=>by simpa using h,?_⟩;refine bf (fun _=>oN 17 f.sz (by decide)) rfl (fun h=>h) (.inl rfl) ?_;simp only[go_sem];refine⟨fun h=>by simpa using h,?_⟩;refine O5 (bs:=[.ptr f.ay.cells]) (fun _=>w5 f.ay) rfl ⟨.inr ⟨5,_,rfl,rfl⟩,trivial⟩ (fun h=>h) (.inl rfl) ?_;simp only[go_sem];refine⟨fun h=>by simpa using h,fun h=>?_,fun h=>?_⟩
 ·symm
  cases hs:f.dN with
  | false=>rfl
  | true =>
   have hp:=Sf.dO.1 hs;have S:=hp.nC;have h3:=hp.cs.an;have h4:=hp.sN;simp[hp.cat,hp.MV] at h;omega
 have hp:f.ay.cU=true/\f.sz.length=f.ay.an.length/\bI 17 f.sz=true/\f.act.length=f.ay.fr.length:=by
  simp only[Bool.or_eq_false_iff,Bool.not_eq_false',bne_eq_false_iff_eq] at h;obtain⟨⟨⟨h1,S⟩,h3⟩,h4⟩:=h;have:=(af.rD h1).an;exact⟨h1,by omega,h3,by omega⟩
 clear h;have W:f.preB=true:=Sf.uq.2 hp;obtain⟨V,ag,Y,ab⟩:=hp;have I:=af.rD V;have ax:=I.an;have ad:=I.cP;have ao:=I.fr;have a1:=I.to;refine au [3,4] (fun(a:Nat)=>[(7,.int .i64 a)]) (fun a=>a<=f.act.length/\cS a f.ph=true) (fun a=>f.act.length-a) 0 (by simp only[go_sem];rfl) ⟨Nat.zero_le _,rfl⟩ rfl ?_;rintro a ⟨hx,hb⟩;simp only[go_sem];refine⟨fun h=>?_,fun h=>?_⟩
 ·have e1:=I.jO (f:=a) (by omega)
  have e2:=I.lz (f:=a) (by omega);have hz:=db Y (i:=(f.ay.to.getD a 0).toNat) (by omega);refine⟨h,by omega,by omega,by omega,by omega,aj (Jw _ _ _ hz.1) rfl (.inl rfl) ?_⟩;simp only[go_sem];have Z:(((f.act.getD a []).length:Int) == f.sz.getD (f.ay.fr.getD a 0).toNat 0&&bI (f.sz.getD (f.ay.to.getD a 0).toNat 0) (f.act.getD a []))=f.ph a:=rfl;rw[Z];refine⟨fun S=>?_,fun S=>?_⟩
  ·have:=vc h (show f.ph a=false by simpa using S)
   symm;unfold Sf.dN;rw[this];simp
  ·exact⟨a+1,⟨by omega,pj hb (by simpa using S)⟩,by omega,by rw[aw h (by simp only[maxLen];omega)]⟩
 ·have:a=f.act.length:=by omega
  subst this;unfold Sf.dN;rw[W,hb];rfl
def Cp:List Nat:=[0,2,3,4,5,6,7,8,9,10,11,12,13,14,15,16,23,24,25,36,37,38,53,54,55,60,61,62,75,76,77]
def Kr:Sl:=ah Tryz.types Tryz.f113 Cp []
theorem T5:aE Tryz.prog Tryz.f113 Cp Kr 1=true:=by decide +kernel
theorem Yj(f:Sf)(Y:f.Shape):aA Tryz.prog 113 [.v (.ptr f.cells)] (fd f.fE):=by
 have V:=Y.cs;have cp:=V.an;have b4:=V.cP;have cm:=V.fr;have cq:=V.to;have cg:=V.co;have b5:=Y.nC;have bF:=Y.sN;refine aQ Tryz.func113 T5 ?_;unfold Kr ah Cp;simp only[go_sem];refine au [6,7,8,9,19,20,21] (fun(x:Nat)=>[(18,.int .i64 x)]) (fun x=>x<=f.ay.an.length/\∀x' I:Nat,x'<x->I<f.size (x':Int)->f.eO x' I=false) (fun x=>f.ay.an.length-x) 0 (by simp only[go_sem];rfl) ⟨Nat.zero_le _,fun _ _ h=>absurd h (Nat.not_lt_zero _)⟩ rfl ?_;rintro x ⟨hx,ha⟩;simp only[go_sem];refine⟨fun W=>?_,fun h=>?_⟩
 ·have hz:=Y.BP (x:=(x:Int)) (by omega) (by omega)
  have hi:=V.idx W;rw[Int.toNat_natCast] at hz;have b1:f.size (x:Int)=(f.sz.getD x 0).toNat:=rfl;have ab:=V.ids x W;simp only[af.jS,Bool.and_eq_true,beq_iff_eq] at ab;have a6:=(Y.acl (a:=(f.ay.an.getD x 0).toNat) (by omega)).1;rw[ab.1] at a6;refine⟨W,by omega,?_⟩;refine au [8,9] (fun(e:Nat)=>[(21,.int .i64 e)]) (fun e=>e<=f.size (x:Int)/\∀I,I<e->f.eO x I=false) (fun e=>f.size (x:Int)-e) 0 (by simp only[go_sem];rfl) ⟨Nat.zero_le _,fun _ h=>absurd h (Nat.not_lt_zero _)⟩ rfl ?_;rintro e ⟨he,hb⟩;simp only[go_sem];have hid:f.eO x e=((f.act.getD (f.ay.an.getD x 0).toNat []).getD e 0 != (e:Int)):=rfl;rw[<-hid];refine⟨fun S=>⟨by omega,fun h3=>?_,fun h3=>⟨e+1,⟨by omega,l5 hb h3⟩,by omega,by rw[aw (n:=17) (by omega) (by simp only[maxLen];omega)]⟩⟩,fun S=>?_⟩
  ·rw[Sf.vD ha W hb (by omega) h3];rfl
  ·exact⟨x+1,⟨by omega,fun x' I h1 S=>by
    by_cases b3:x'=x
    ·subst b3;exact hb I (by omega)
    ·exact ha x' I (by omega) S⟩,by omega,by rw[aw W (by simp only[maxLen];omega)]⟩
 have b2:x=f.ay.an.length:=by omega
 subst b2;clear hx h;refine au [10,11,12,13,14,15,25,26,27,28,29,30] (fun(a:Nat)=>[(24,.int .i64 a)]) (fun a=>a<=f.ay.fr.length/\∀a' b' I:Nat,a'<a->b'<f.ay.fr.length->f.ay.to.getD a' 0=f.ay.fr.getD b' 0->I<f.size (f.ay.fr.getD a' 0)->f.jI a' b' I=false) (fun a=>f.ay.fr.length-a) 0 (by simp only[go_sem];rfl) ⟨Nat.zero_le _,fun _ _ _ h=>absurd h (Nat.not_lt_zero _)⟩ rfl ?_;rintro a ⟨cc,hb⟩;simp only[go_sem];refine⟨fun a7=>⟨a7,?_⟩,fun h1=>?_⟩
 ·have h1:a<f.ay.fr.length:=by omega
  have b0:=V.row a h1;refine au [12,13,14,15,28,29,30] (fun(b:Nat)=>[(27,.int .i64 b)]) (fun b=>b<=f.ay.fr.length/\∀b' I:Nat,b'<b->f.ay.to.getD a 0=f.ay.fr.getD b' 0->I<f.size (f.ay.fr.getD a 0)->f.jI a b' I=false) (fun b=>f.ay.fr.length-b) 0 (by simp only[go_sem];rfl) ⟨Nat.zero_le _,fun _ _ h=>absurd h (Nat.not_lt_zero _)⟩ rfl ?_;rintro b ⟨cd,Z⟩;simp only[go_sem];have e1:=V.jO h1;have e2:=V.lz h1;have hz:=Y.BP e1.1 e1.2;have b1:f.size (f.ay.fr.getD a 0)=(f.sz.getD (f.ay.fr.getD a 0).toNat 0).toNat:=rfl;have b9:=(Y.acl h1).1;have bT:(f.ay.co.getD a []).getD b 0=f.ay.bH a b:=rfl;rw[bT];refine⟨fun a8=>⟨a8,fun h3=>?_,fun h3=>?_⟩,fun S=>?_⟩
  ·have S:b<f.ay.fr.length:=by omega
   exact⟨b+1,⟨by omega,fun b' I k1 k2 k3=>by
    by_cases ag:b'=b
    ·subst ag
     have:=(V.mC h1 S k2).1;omega
    ·exact Z b' I (by omega) k2 k3⟩,by omega,by rw[aw S (by simp only[maxLen];omega)]⟩
  ·have S:b<f.ay.fr.length:=by omega
   have ad:f.ay.to.getD a 0=f.ay.fr.getD b 0:=by
    apply Classical.byContradiction;intro hn;rw[V.yo h1 S hn] at h3;omega
   obtain⟨c0,c1,c2,c3⟩:=V.mC h1 S ad;have ao:=(Y.acl S).1;have ax:=(Y.acl (a:=(f.ay.bH a b).toNat) (by omega)).1;rw[c2] at ax;rw[<-ad] at ao;refine⟨by omega,?_⟩;refine au [14,15] (fun(e:Nat)=>[(30,.int .i64 e)]) (fun e=>e<=f.size (f.ay.fr.getD a 0)/\∀I:Nat,I<e->f.jI a b I=false) (fun e=>f.size (f.ay.fr.getD a 0)-e) 0 (by simp only[go_sem];rfl) ⟨Nat.zero_le _,fun _ h=>absurd h (Nat.not_lt_zero _)⟩ rfl ?_;rintro e ⟨cj,hd⟩;simp only[go_sem];have a1:f.jI a b e=((f.act.getD (f.ay.bH a b).toNat []).getD e 0 != (f.act.getD b []).getD ((f.act.getD a []).getD e 0).toNat 0):=rfl;refine⟨fun h4=>?_,fun h4=>?_⟩
   ·have hle:e<f.size (f.ay.fr.getD a 0):=by omega
    have h5:=Y.NU h1 (e:=e) (by omega) (by omega);have h6:f.ac a e=(f.act.getD a []).getD e 0:=rfl;rw[<-a1];refine⟨by omega,by omega,by omega,by omega,by omega,fun h7=>?_,fun h7=>?_⟩
    ·rw[Sf.Qa ha hb Z hd h1 S ad hle h7];rfl
    ·exact⟨e+1,⟨by omega,l5 hd h7⟩,by omega,by rw[aw (n:=17) (by omega) (by simp only[maxLen];omega)]⟩
   ·exact⟨b+1,⟨by omega,fun b' I k1 k2 k3=>by
     by_cases ag:b'=b
     ·subst ag;exact hd I (by omega)
     ·exact Z b' I (by omega) k2 k3⟩,by omega,by rw[aw S (by simp only[maxLen];omega)]⟩
  ·have:b=f.ay.fr.length:=by omega
   subst this
   exact⟨a+1,⟨by omega,fun a' b' I k1 k2 k3 k4=>by
    by_cases bg:a'=a
    ·subst bg;exact Z b' I k2 k3 k4
    ·exact hb a' b' I (by omega) k2 k3 k4⟩,by omega,by rw[aw h1 (by simp only[maxLen];omega)]⟩
 ·have:a=f.ay.fr.length:=by omega
  subst this;rw[Sf.tl ha hb];rfl
def Cq:List Nat:=[0,2,3]
def Ks:Sl:=ah Tryz.types Tryz.f49 Cq []
theorem T6:aE Tryz.prog Tryz.f49 Cq Ks 1=true:=by decide +kernel
theorem Ju(f:Sf):aA Tryz.prog 49 [.v (.ptr f.cells)] (.bool f.cU):=by
 refine aQ Tryz.func49 T6 ?_;unfold Ks ah Cq;simp only[go_sem];refine aj (Yk f) rfl (.inl rfl) ?_;simp only[go_sem];refine⟨fun h=>?_,fun h=>?_⟩
 ·unfold Sf.cU;rw[Bool.not_eq_true'] at h;rw[h];rfl
 rw[Bool.not_eq_false'] at h;refine aj (Yj f (Sf.dO.1 h)) rfl (.inl rfl) ?_;simp only[fd];simp only[go_sem];unfold Sf.cU;rw[h];rfl
end Go.D3
