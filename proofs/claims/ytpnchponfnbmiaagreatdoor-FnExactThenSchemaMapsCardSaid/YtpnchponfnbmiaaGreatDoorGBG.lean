/- CONTRACTS: arrows of paths, whether a category of a schema is what it should be: the program's side. -/
import Derived.Test.YtpnchponfnbmiaaGreatDoorGBE
import Derived.Test.YtpnchponfnbmiaaGreatDoorGAJ
import Derived.Test.YtpnchponfnbmiaaGreatDoorGBF
import Derived.Test.YtpnchponfnbmiaaGreatDoorGAL
namespace Go.D3
open Go
set_option maxHeartbeats 4000000
set_option maxRecDepth 100000
abbrev pV(S:D)(x:au)(Y:D):List D:=[S,.int .i64 x.c.ob,ints x.c.fr,ints x.c.to,ints x.c.aN,aW x.c.co,ints x.ed,Y]
def AD:List Nat:=[0,1,4,3,5,7,18,19,20]
def H9:Sl:=ae Go.Proofs.Tryz.types Go.Proofs.Tryz.f56 AD []
theorem P5:aD Go.Proofs.Tryz.prog Go.Proofs.Tryz.f56 AD H9 2=true:=by decide +kernel
theorem qd{s:Sch}{x:au}(hx:fY s x)(S Y:D){p:Pth}{y:Int}(hp:s.aB p=some y):al Go.Proofs.Tryz.prog 56 [.v (.ptr (pV S x Y)),.v (Pth.d p)] (.int .i64 (x.arr p p.ed.length)):=by
 obtain⟨h1,h2,_⟩:=bx.1 hp;have hi:=hx.sh.aN;have ho:=hx.ob;have hco:=hx.sh.co;have hed:=hx.ed
 have he:∀i,i<p.ed.length->∃k:Nat,p.ed.getD i 0=k/\k<s.fr.length:=fun i hi=>by
  have hm:=kF hp (i:=i+1) hi;rw[bT hi 0] at hm;obtain⟨k,k1,k2,_⟩:=po hm;exact⟨k,k1,k2⟩
 refine aC Go.Proofs.Tryz.func56 P5 ?_;unfold H9 ae AD;simp only[go_sem];refine⟨by omega,?_⟩;refine aJ [5] (fun(i:Nat)=>[(4,.int .i64 (x.arr p i)),(8,.int .i64 i)]) (fun i=>i<=p.ed.length) (fun i=>p.ed.length-i) 0 (by simp only[go_sem];rfl) (Nat.zero_le _) rfl ?_;intro i hi;simp only[go_sem];refine⟨fun h3=>?_,fun h3=>?_⟩
 ·obtain⟨k,k1,k2⟩:=he i h3
  obtain⟨a1,a2,_⟩:=hx.ar k k2;obtain⟨a,m,e3,e4,_⟩:=au.nr hx hp i (by omega);have hr:=hx.sh.row a e4
  have hs:x.arr p (i+1)=x.c.bI (x.arr p i) (x.ed.getD (p.ed.getD i 0).toNat 0):=by
   unfold au.arr;rw[bT h3 0,List.foldl_append];rfl
  have hge : 0<=x.ed.getD (p.ed.getD i 0).toNat 0/\x.ed.getD (p.ed.getD i 0).toNat 0<x.c.fr.length:=by
   rw[k1,Int.toNat_natCast];exact⟨a1,a2⟩
  refine⟨h3,by omega,gY (bs:=[_,_,_]) (yK x.c (x.arr p i) (x.ed.getD (p.ed.getD i 0).toNat 0) (by omega) (by omega) hge.1 (by rw[e3,Int.toNat_natCast];omega)) rfl ⟨.inr ⟨5,_,rfl,rfl⟩,.inl rfl,.inl rfl,trivial⟩ (.inl rfl) ?_⟩;simp only[go_sem];exact⟨i+1,h3,by omega,by rw[hs,aH h3 (by simp only[maxLen];omega)];rfl⟩
 ·rw[show i=p.ed.length by omega]
def AE:List Nat:=[0,2,3,4,5,14,15,16,34,35]
def Ia:Sl:=ae Go.Proofs.Tryz.types Go.Proofs.Tryz.f146 AE []
theorem P6:aD Go.Proofs.Tryz.prog Go.Proofs.Tryz.f146 AE Ia 1=true:=by decide +kernel
theorem S1{s:Sch}(h:s.ok=true){ls:List Pth}(hL:s.cB ls)(h40:ls.length<=40):al Go.Proofs.Tryz.prog 146 [.v (.ptr (pV (.ptr s.cells) (s.cE ls) (U Pth.d Pth.zero ls)))] (.bool (s.fM (s.cE ls))):=by
 obtain⟨hk1,hlf,hrt⟩:=eB h;have hlse:(s.cE ls).ls=ls:=rfl;refine aC Go.Proofs.Tryz.func146 P6 ?_;unfold Ia ae AE;simp only[go_sem];refine gY (bs:=[_]) (S6 (s.cE ls).c) rfl ⟨.inr ⟨5,_,rfl,rfl⟩,trivial⟩ (.inl rfl) ?_;simp only[go_sem];refine⟨fun hB=>?_,fun hB=>?_⟩
 ·rw[show s.fM (s.cE ls)=false from Bool.eq_false_iff.2 fun hg=>by
   unfold Sch.fM at hg;simp only[Bool.and_eq_true] at hg
   rw[hg.1.1] at hB;cases hB]
 have hB:(s.cE ls).c.jv=true:=by simpa using hB
 have hx:=zG h hL hB;refine aJ [2,3] (fun(f:Nat)=>[(7,.int .i64 f)]) (fun f=>f<=ls.length/\∀j,j<f->(s.cE ls).arr (ls.getD j Pth.zero) (ls.getD j Pth.zero).ed.length=j) (fun f=>ls.length-f) 0 (by simp only[go_sem];rfl) ⟨Nat.zero_le _,fun j hj=>absurd hj (Nat.not_lt_zero _)⟩ rfl ?_;rintro f ⟨hf2,hfa⟩;simp only[go_sem];refine⟨fun h7=>?_,fun h7=>?_⟩
 ·obtain⟨y,hy⟩:=hL.sp _ (cH (d:=Pth.zero) h7)
  refine⟨h7,af (qd hx _ _ hy) rfl (.inl rfl) ?_⟩;simp only[go_sem];refine⟨fun hn=>?_,fun hn=>⟨f+1,⟨h7,fun j hj=>?_⟩,by omega,by rw[aH h7 (by simp only[maxLen];omega)]⟩⟩
  ·rw[show s.fM (s.cE ls)=false from Bool.eq_false_iff.2 fun hg=>by
    unfold Sch.fM at hg;simp only[Bool.and_eq_true,jO,beq_iff_eq] at hg;rw[bne_iff_ne] at hn
    exact hn (hg.1.2 f h7)]
  ·by_cases hjf:j<f
   ·exact hfa j hjf
   ·obtain rfl:j=f:=by omega
    rwa [bne_eq_false_iff_eq] at hn
 obtain rfl:f=ls.length:=by omega
 refine aJ [4] (fun(i:Nat)=>[(9,.int .i64 i)]) (fun i=>i<=s.lf.length/\∀j,j<i->(s.cE ls).arr (s.lf.getD j Pth.zero) (s.lf.getD j Pth.zero).ed.length=(s.cE ls).arr (s.rt.getD j Pth.zero) (s.rt.getD j Pth.zero).ed.length) (fun i=>s.lf.length-i) 0 (by simp only[go_sem];rfl) ⟨Nat.zero_le _,fun j hj=>absurd hj (Nat.not_lt_zero _)⟩ rfl ?_;rintro i ⟨hi,hia⟩;simp only[go_sem];refine⟨fun h8=>?_,fun h8=>?_⟩
 ·obtain⟨z,hp,hq,aI⟩:=ok_eq h h8
  refine⟨h8,af (qd hx _ _ hp) rfl (.inl rfl) ?_⟩;simp only[go_sem];refine⟨by omega,af (qd hx _ _ hq) rfl (.inl rfl) ?_⟩;simp only[go_sem];refine⟨fun hn=>?_,fun hn=>⟨i+1,⟨h8,fun j hj=>?_⟩,by omega,by rw[aH h8 (by simp only[maxLen];omega)]⟩⟩
  ·rw[show s.fM (s.cE ls)=false from Bool.eq_false_iff.2 fun hg=>by
    unfold Sch.fM at hg;simp only[Bool.and_eq_true,jO,beq_iff_eq] at hg;rw[bne_iff_ne] at hn
    exact hn (hg.2 i h8)]
  ·by_cases hji:j<i
   ·exact hia j hji
   ·obtain rfl:j=i:=by omega
    rwa [bne_eq_false_iff_eq] at hn
 ·rw[show s.fM (s.cE ls)=true from ?_]
  unfold Sch.fM;simp only[Bool.and_eq_true,jO,beq_iff_eq];exact⟨⟨hB,fun j hj=>hfa j hj⟩,fun j hj=>hia j (by omega)⟩
end Go.D3
