/- THE LAW: FnSources. -/
import Derived.Test.YtpjbamibcngihaaGreatDoorGBP
import Derived.Test.YtpjbamibcngihaaGreatDoorGBM
namespace Go.D3
open Go
set_option maxHeartbeats 4000000
set_option maxRecDepth 100000
def wm:List Nat:=[0,1,4,5,6,7,8]
def Cx:Sl:=ak Go.Proofs.Tryz.types Go.Proofs.Tryz.f11 wm [(4,7)]
theorem Ld:aI Go.Proofs.Tryz.prog Go.Proofs.Tryz.f11 wm Cx 2=true:=by decide +kernel
theorem KR(t:List UInt8)(k:Int)(ht:t.length<=1048576):aC Go.Proofs.Tryz.prog 11 [.v (.str t),.v (.int .i64 k)] (u6 k (bO t)):=by
 refine aT Go.Proofs.Tryz.func11 Ld ?_;unfold Cx ak wm;simp only[go_sem];refine ax (vN t ht) rfl (.inl (AQ _)) ?_;cases hr:bO t with
 | none =>
  simp only[iO];simp only[go_sem];exact⟨fun _=>rfl,fun h=>absurd h (by decide)⟩
 | some p =>
  obtain⟨hok,hH⟩:=jT hr;have hdl:=hH.dl;have h6:=hH.t6;have hgl:=hH.gl;simp only[iO];unfold im;simp only[go_sem];refine⟨fun h=>absurd h (by decide),fun _=>?_⟩;refine ax (iS k 0 p.2.tx.length) rfl (.inl rfl) ?_;cases hin:aL k 0 p.2.tx.length with
  | false =>
   simp only[go_sem];simp only[u6,hin];rfl
  | true =>
   have hk : 0<=k/\k<=p.2.tx.length:=by unfold aL at hin;simpa using hin
   have hki:k.toNat<p.2.dt.length:=by omega
   simp only[go_sem];refine⟨⟨hk.1,by omega⟩,hki,⟨hk.1,by omega⟩,hki,?_⟩;rw[Q2 hki];simp only[u6,hin];rfl
end Go.D3
namespace Go.D3
open Go
set_option maxRecDepth 100000
def ya:List Nat:=[0,2]
def ES:Sl:=ak Go.Proofs.Tryz.types Go.Proofs.Tryz.f6 ya []
theorem Nn:aI Go.Proofs.Tryz.prog Go.Proofs.Tryz.f6 ya ES 1=true:=by decide +kernel
theorem Nc(c:List Int):aC Go.Proofs.Tryz.prog 6 [.v (ae (D.int .u8) 0 c)] (.bool (decide (4096<(c.length:Int)))):=by
 refine fe fun hw=>?_
 simp only[dM,gf] at hw;refine aT Go.Proofs.Tryz.func6 Nn ?_;unfold ES ak ya;simp only[go_sem]
theorem Uq(e r:Int):∀o,(jJ e r o).bl=true
 | none=>rfl
 | some p=>by simp only[jJ];split<;>rfl
def we:List Nat:=[0,2,3,4,5,6,7,8,9,11,12,14,15,17,18]
def Ck:Sl:=ak Go.Proofs.Tryz.types Go.Proofs.Tryz.f3 we [(0,7)]
theorem Lb:aI Go.Proofs.Tryz.prog Go.Proofs.Tryz.f3 we Ck 1=true:=by decide +kernel
theorem KT(c:List Int):aC Go.Proofs.Tryz.prog 3 [.v (ae (D.int .u8) 0 c)] (.bool true):=by
 refine fe fun hw=>?_
 simp only[dM,gf] at hw;refine aT Go.Proofs.Tryz.func3 Lb ?_;unfold Ck ak we;simp only[go_sem];refine ax (Nc c) rfl (.inl rfl) ?_;simp only[go_sem];intro hb
 have hc:ir c:=⟨by omega,fun i hi=>by
  have h1:IntKind.u8.has (c.getD i 0):=hw.1.2 (c.getD i 0) (by rw[aS hi];exact List.getElem_mem _);have h2:=h1.1;have h3:=h1.2;simp[IntKind.min,IntKind.max,IntKind.signed,IntKind.bits] at h2 h3;rw[List.getD_eq_getElem?_getD]
  omega⟩
 refine bm [] false (KQ hc) ?_;rintro _ _ ⟨rfl,t,k,r,ht,rfl⟩;refine⟨(by repeat(first | exact trivial | refine⟨(fun h=>by cases h),?_⟩)),(fun h=>by cases h),?_⟩;simp only[go_sem];refine ax (MI t k r (by omega)) rfl (.inl (Uq _ _ _)) ?_;have hrd:=Km t (by omega);have hat:=fun i=>KR t i (by omega)
 have hsp:=MB t k r (by omega);cases hr:bO t with
 | none =>
  rw[hr] at hsp;simp only[jJ] at hsp|-
  simp only[go_sem];refine ax hsp rfl (.inl rfl) ?_;simp only[go_sem];exact⟨by decide,by decide,fun _ h=>absurd h (by decide)⟩
 | some p =>
  rw[hr] at hsp hrd hat;simp only[jJ] at hsp|-
  cases hb:rW p k r with
  | false =>
   rw[hb,if_neg (by decide)] at hsp;rw[if_neg (by decide)];simp only[go_sem];refine ax hsp rfl (.inl rfl) ?_;simp only[go_sem];exact⟨by decide,by decide,fun _ h=>absurd h (by decide)⟩
  | true =>
   rw[hb,if_pos rfl] at hsp;rw[if_pos rfl];simp only[go_sem];refine ax hsp rfl (.inl rfl) ?_;simp only[go_sem];refine⟨by decide,fun h=>by simp at h,fun _=>⟨fun h=>absurd h (by decide),fun _=>?_⟩⟩;obtain⟨hok,hH⟩:=jT hr;have hs:=eQ (eK hok).1;have hdl:=hH.dl;have h6:=hH.t6;have hgl:=hH.gl;have hf8:=hs.f8;have hmp:=hH.last.mp;simp only[rW,aL,Bool.and_eq_true,decide_eq_true_eq] at hb;obtain⟨⟨k0,k1⟩,r0,r1⟩:=hb;obtain⟨k,rfl⟩:∃n:Nat,k=n:=⟨k.toNat,by omega⟩;obtain⟨r,rfl⟩:∃n:Nat,r=n:=⟨r.toNat,by omega⟩;simp only[Int.toNat_natCast] at r1;have hln:=hH.last.len k (by omega);obtain⟨s1,s2,s3⟩:=HI hr (e:=k) (i:=r) (by omega) (by unfold af.ln;omega);generalize eC p.2.tx k r p.2.tx.length=K at *;simp only[JO] at hrd;refine ax hrd rfl (.inl (by simp only[D.bl,dE,cW,jP,Bool.and_self])) ?_;simp only[go_sem];unfold af.ln at s3;have hd1:decide ((K:Int)<1)=false:=decide_eq_false (by omega);have hd2:decide (p.2.tx.length<K)=false:=decide_eq_false (by omega);have hd3:decide (p.2.last.mp.length<=k)=false:=decide_eq_false (by omega);have hd4:decide ((p.2.last.mp.getD k []).length<=r)=false:=decide_eq_false (by omega);refine⟨by decide,fun _=>by rw[hd1];rfl,fun _=>by rw[hd1,hd2];rfl,fun h=>⟨h,by omega⟩,fun _=>by rw[hd1,hd2,hd3];rfl,fun h=>by rw[hd1,hd2,hd3,hd4] at h;exact absurd h (by decide),fun _=>?_⟩;refine aG [13,14] (fun(q:Nat)=>[(12,.int .i64 q)]) (fun q=>K<=q/\q<=p.2.tx.length+1) (fun q=>p.2.tx.length+1-q) K (by simp only[go_sem];rfl) ⟨Nat.le_refl _,by omega⟩ rfl ?_;rintro q ⟨q1,q2⟩;simp only[go_sem];intro h1;obtain⟨a1,a2⟩:=s3 q q1 (by omega);have hq:=hat q;simp only[u6] at hq;rw[if_pos (by simp[aL];omega),Int.toNat_natCast] at hq;have hmq:=(hH.at' (i:=q) (by omega)).mp;refine ax hq rfl (.inl (by simp only[D.bl,dE,cW,jP,Bool.and_self])) ?_;simp only[go_sem];unfold af.vl at a2;have g1:decide ((p.2.dt.getD q af.zero).mp.length<=k)=false:=decide_eq_false (by omega)
   have g2:decide (((p.2.dt.getD q af.zero).mp.getD k []).length<=r)=false:=decide_eq_false (by omega);have g3:(((p.2.dt.getD q af.zero).mp.getD k []).getD r 0 != (p.2.last.mp.getD k []).getD r 0)=false:=by rw[a2];exact bne_self_eq_false _
   refine⟨by decide,fun h=>⟨h,by omega⟩,fun _=>by rw[g1];rfl,fun h=>⟨h,by omega⟩,fun h=>⟨h,a1⟩,fun h=>⟨h,by omega⟩,fun h=>⟨h,by omega⟩,fun _=>by rw[g1,g2];rfl,fun h=>by rw[g1,g2,g3] at h;exact absurd h (by decide),fun _=>⟨q+1,⟨by omega,by omega⟩,by omega,by rw[aN (i:=q) (n:=p.2.tx.length+1) (by omega) (by simp only[maxLen];omega)]⟩⟩
end Go.D3
