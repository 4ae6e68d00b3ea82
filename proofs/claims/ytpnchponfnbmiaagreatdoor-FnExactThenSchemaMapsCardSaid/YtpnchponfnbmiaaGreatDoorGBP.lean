/- CONTRACTS: maps of schemas: marks that are held in results. -/
import Derived.Test.YtpnchponfnbmiaaGreatDoorGBO
namespace Go.D3
open Go
set_option maxHeartbeats 4000000
set_option maxRecDepth 100000
def AQ:List Nat:=[0,1,4,5]
def Ip:Sl:=ae Go.Proofs.Tryz.types Go.Proofs.Tryz.f59 AQ []
theorem Qi:aD Go.Proofs.Tryz.prog Go.Proofs.Tryz.f59 AQ Ip 2=true:=by decide +kernel
theorem yQ(a:List Pth)(k:Int)(h0 : 0<=k)(h1:k+bu Pth.aZ a a.length<=4611686018427387900):al Go.Proofs.Tryz.prog 59 [.v (U Pth.d Pth.zero (fv Pth.dS Pth.aZ Pth.zero k a)),.v (.int .i64 k)] (.int .i64 (k+bu Pth.aZ a a.length)):=by
 refine fD fun hw=>?_
 simp only[dj,fH,xo] at hw;have hm:a.length<=maxLen:=hw.1.1;refine aC Go.Proofs.Tryz.func59 Qi ?_;unfold Ip ae AQ;simp only[go_sem];refine aJ [] (fun(i:Nat)=>[(1,.int .i64 (k+bu Pth.aZ a i)),(3,.int .i64 i)]) (fun i=>i<=a.length) (fun i=>a.length-i) 0 (by simp only[go_sem];rfl) (Nat.zero_le _) ?_ ?_
 ·simp only[go_sem,CZ];simp
 rintro i hi;by_cases h:i<a.length
 rotate_left
 ·simp only[go_sem]
  rw[xo];exact⟨fun hh=>absurd hh h,fun _=>by rw[show i=a.length by omega]⟩
 have hc:bu Pth.aZ a (i+1)<=bu Pth.aZ a a.length:=CX h;have hl:i<(fv Pth.dS Pth.aZ Pth.zero k a).length:=by rw[xo];exact h
 have hz:(fv Pth.dS Pth.aZ Pth.zero k a).getD i Pth.zero=Pth.dS (k+bu Pth.aZ a i) (a.getD i Pth.zero):=Oc h;have hcs:bu Pth.aZ a (i+1)=bu Pth.aZ a i+Pth.aZ (a.getD i Pth.zero):=CY h;have hhn : 0<=k+bu Pth.aZ a i:=by omega
 have hend:k+bu Pth.aZ a (i+1)=(k+bu Pth.aZ a i)+Pth.aZ (a.getD i Pth.zero):=by omega
 have hbd:(k+bu Pth.aZ a i)+Pth.aZ (a.getD i Pth.zero)<=4611686018427387900:=by omega
 clear hcs hc;generalize hK:k+bu Pth.aZ a i=K at hhn hz hend hbd|-
 generalize fv Pth.dS Pth.aZ Pth.zero k a=q at hl hz|-
 generalize a.getD i Pth.zero=x at hz hend hbd;generalize hKe:k+bu Pth.aZ a (i+1)=K2 at hend;unfold Pth.aZ at hbd hend;unfold Pth.dS at hz;simp only[go_sem,hz,hl];refine⟨fun hh=>by simp at hh,fun _=>?_⟩;rw[wrap_small (by omega) (by omega)];refine af (uJ x.ed.length (K+1) (by omega) (by omega)) rfl (.inl rfl) ?_;simp only[go_sem];refine⟨fun hh=>by omega,fun _=>?_⟩;refine⟨i+1,by omega,by omega,?_⟩;rw[aH h hm,hKe,hend];simp only[Int.natCast_add,Int.natCast_one,Int.add_assoc]
def AR:List Nat:=[0,1,4,2]
def Iq:Sl:=ae Go.Proofs.Tryz.types Go.Proofs.Tryz.f58 AR []
theorem Qj:aD Go.Proofs.Tryz.prog Go.Proofs.Tryz.f58 AR Iq 2=true:=by decide +kernel
theorem GV(a:Sch)(k:Int)(h0 : 0<=k)(h1:k+a.bh<=4611686018427387900):al Go.Proofs.Tryz.prog 58 [.v (Sch.d (a.marks k)),.v (.int .i64 k)] (.int .i64 (k+a.bh)):=by
 unfold Sch.bh at h1|-
 refine aC Go.Proofs.Tryz.func58 Qj ?_;unfold Iq ae AR;simp only[go_sem];refine af (uJ a.fr.length (k) (by omega) (by omega)) rfl (.inl rfl) ?_;simp only[go_sem];refine⟨fun hh=>by omega,fun _=>?_⟩;refine af (uJ a.to.length (k+a.fr.length) (by omega) (by omega)) rfl (.inl rfl) ?_;simp only[go_sem];refine⟨fun hh=>by omega,fun _=>?_⟩;refine af (yQ a.lf (k+a.fr.length+a.to.length) (by omega) (by omega)) rfl (.inl rfl) ?_;simp only[go_sem];refine⟨fun hh=>by omega,fun _=>?_⟩;refine af (yQ a.rt (k+a.fr.length+a.to.length+bu Pth.aZ a.lf a.lf.length) (by omega) (by omega)) rfl (.inl rfl) ?_;simp only[go_sem];refine⟨fun hh=>by omega,fun _=>?_⟩;simp only[Int.natCast_add,Int.add_assoc]
def AS:List Nat:=[0,1,4,2]
def Ir:Sl:=ae Go.Proofs.Tryz.types Go.Proofs.Tryz.f17 AS []
theorem Qk:aD Go.Proofs.Tryz.prog Go.Proofs.Tryz.f17 AS Ir 2=true:=by decide +kernel
theorem GW(a:Smp)(k:Int)(h0 : 0<=k)(h1:k+a.bh<=4611686018427387900):al Go.Proofs.Tryz.prog 17 [.v (Smp.d (a.marks k)),.v (.int .i64 k)] (.int .i64 (k+a.bh)):=by
 unfold Smp.bh at h1|-
 refine aC Go.Proofs.Tryz.func17 Qk ?_;unfold Ir ae AS;simp only[go_sem];refine af (GV a.src (k) (by omega) (by omega)) rfl (.inl rfl) ?_;simp only[go_sem];refine⟨fun hh=>by omega,fun _=>?_⟩;refine af (GV a.av (k+a.src.bh) (by omega) (by omega)) rfl (.inl rfl) ?_;simp only[go_sem];refine⟨fun hh=>by omega,fun _=>?_⟩;refine af (uJ a.aX.length (k+a.src.bh+a.av.bh) (by omega) (by omega)) rfl (.inl rfl) ?_;simp only[go_sem];refine⟨fun hh=>by omega,fun _=>?_⟩;refine af (yQ a.aL (k+a.src.bh+a.av.bh+a.aX.length) (by omega) (by omega)) rfl (.inl rfl) ?_;simp only[go_sem];refine⟨fun hh=>by omega,fun _=>?_⟩;simp only[Int.natCast_add,Int.add_assoc]
end Go.D3
