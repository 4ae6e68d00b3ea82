/- CONTRACTS: functors of maps of schemas: the program's side. -/
import Derived.Test.YtpnchponfnbmiaaGreatDoorGBL
namespace Go.D3
open Go
set_option maxHeartbeats 4000000
set_option maxRecDepth 100000
def Au:List Nat:=[0,1,4,3,5,7,30,31,32]
def HZ:Sl:=ae Go.Proofs.Tryz.types Go.Proofs.Tryz.f55 Au []
theorem PV:aD Go.Proofs.Tryz.prog Go.Proofs.Tryz.f55 Au HZ 2=true:=by decide +kernel
theorem GN{m:Smp}(hm:m.Ok)(a:au){b:au}(hb:fY m.av b){p:Pth}{y:Int}(hp:m.src.aB p=some y):al Go.Proofs.Tryz.prog 55 [.v (dR m a b),.v (Pth.d p)] (.int .i64 (m.eX b p p.ed.length)):=by
 obtain⟨h1,h2,_⟩:=bx.1 hp;have hn:=hm.n;have hi:=hb.sh.aN;have ho:=hb.ob;have hco:=hb.sh.co;have hr:=hm.r p.st.toNat (by omega);unfold dR au.pD;refine aC Go.Proofs.Tryz.func55 PV ?_;unfold HZ ae Au;simp only[go_sem];refine⟨by omega,by omega,?_⟩;refine aJ [5] (fun(i:Nat)=>[(4,.int .i64 (m.eX b p i)),(8,.int .i64 i)]) (fun i=>i<=p.ed.length) (fun i=>p.ed.length-i) 0 (by simp only[go_sem];rfl) (Nat.zero_le _) rfl ?_;intro i hi;simp only[go_sem];refine⟨fun h3=>?_,fun h3=>?_⟩
 ·obtain⟨k,c,k1,k2,k3,c1,c2,c3,c4,f1,f2⟩:=Smp.wz hm hb hp h3
  obtain⟨h,n,i1,i2,i3,i4⟩:=Smp.tn hm hb hp i (by omega);have aI:=Smp.wW (m:=m) (b:=b) h3;rw[k1,Int.toNat_natCast,c1] at aI;have hrow:=hb.sh.row h i2;have hw:=aH h3 (show p.ed.length<=maxLen by simp only[maxLen];omega);simp only[k1,Int.toNat_natCast];refine⟨h3,by omega,af (qd hb _ _ k3) rfl (.inl rfl) ?_⟩;rw[c1];simp only[go_sem];refine gY (bs:=[_,_,_]) (yK b.c (m.eX b p i) (c:Int) (by omega) (by omega) (by omega) (by rw[i1,Int.toNat_natCast];omega)) rfl ⟨.inr ⟨5,_,rfl,rfl⟩,.inl rfl,.inl rfl,trivial⟩ (.inl rfl) ?_;simp only[go_sem];exact⟨i+1,h3,by omega,by rw[aI,hw];rfl⟩
 ·rw[show i=p.ed.length by omega]
def Av:List Nat:=[0,2,3,12,13]
def H0:Sl:=ae Go.Proofs.Tryz.types Go.Proofs.Tryz.f51 Av []
theorem PW:aD Go.Proofs.Tryz.prog Go.Proofs.Tryz.f51 Av H0 1=true:=by decide +kernel
theorem uF{m:Smp}(hm:m.Ok)(a:au){b:au}(hb:fY m.av b):al Go.Proofs.Tryz.prog 51 [.v (dR m a b)] (.bool (m.dK b)):=by
 obtain⟨hk1,hlf,hrt⟩:=eB hm.s;have him:=fun {p y}(hp:m.src.aB p=some y)=>GN hm a hb hp
 unfold dR au.pD at him|-
 refine aC Go.Proofs.Tryz.func51 PW ?_;unfold H0 ae Av;simp only[go_sem];refine aJ [2] (fun(i:Nat)=>[(4,.int .i64 i)]) (fun i=>i<=m.src.lf.length/\cm i (fun i=>m.eX b (m.src.lf.getD i Pth.zero) (m.src.lf.getD i Pth.zero).ed.length == m.eX b (m.src.rt.getD i Pth.zero) (m.src.rt.getD i Pth.zero).ed.length)=true) (fun i=>m.src.lf.length-i) 0 (by simp only[go_sem];rfl) ⟨Nat.zero_le _,rfl⟩ rfl ?_;rintro i ⟨hi,ha⟩;simp only[go_sem];refine⟨fun h1=>?_,fun h1=>?_⟩
 ·obtain⟨z,hp,hq,aI⟩:=ok_eq hm.s h1
  refine⟨h1,af (him hp) rfl (.inl rfl) ?_⟩;simp only[go_sem];refine⟨by omega,af (him hq) rfl (.inl rfl) ?_⟩;simp only[go_sem];refine⟨fun h2=>?_,fun h2=>⟨i+1,⟨h1,jP ha (by rw[beq_iff_eq];rwa [bne_eq_false_iff_eq] at h2)⟩,by omega,by rw[aH h1 (by simp only[maxLen];omega)]⟩⟩;unfold Smp.dK;rw[nn h1 (by rw[bne_iff_ne] at h2;exact beq_eq_false_iff_ne.2 h2)]
 ·unfold Smp.dK
  rw[show m.src.lf.length=i by omega,ha]
end Go.D3
