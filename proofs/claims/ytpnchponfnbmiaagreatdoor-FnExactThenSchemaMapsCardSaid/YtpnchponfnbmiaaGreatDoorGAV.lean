/- CONTRACTS: the texts of paths and schemas, both sides. -/
import Derived.Test.YtpnchponfnbmiaaGreatDoorGAU
import Derived.Lib.ParseIntBCases
import Derived.Lib.ItoaMem
import Derived.Test.YtpnchponfnbmiaaGreatDoorGAF
namespace Go.D3
open Go
set_option maxHeartbeats 4000000
set_option maxRecDepth 100000
theorem C6{m:Nat}(h:m<10):fO (UInt8.ofNat (48+m))=true/\(UInt8.ofNat (48+m)).toNat-48=m:=by
 have:(UInt8.ofNat (48+m)).toNat=48+m:=by rw[UInt8.toNat_ofNat',Nat.mod_eq_of_lt (by omega)]
 unfold fO;rw[this];exact⟨by simp only[Bool.and_eq_true,decide_eq_true_eq];omega,by omega⟩
theorem C5(n:Nat):(Lib.decDigits n).all fO=true/\lK 0 (Lib.decDigits n)=n/\Lib.decDigits n≠[]/\(0<n->(Lib.decDigits n).getD 0 0≠48):=by
 induction n using Nat.strongRecOn with
 | _ n ih =>
  by_cases h:n<10
  ·rw[Lib.decDigits_one h]
   obtain⟨h1,h2⟩:=C6 h;refine⟨by rw[List.all_cons,h1];rfl,by rw[VN,h2,Nat.mul_zero,Nat.zero_add];rfl,by simp,fun h0 hh=>?_⟩;have hh:UInt8.ofNat (48+n)=48:=hh;rw[hh] at h2;have:(48:UInt8).toNat-48=0:=by decide
   omega
  ·rw[LR h]
   obtain⟨h1,h2⟩:=C6 (show n % 10<10 by omega);obtain⟨i1,i2,i3,i4⟩:=ih (n / 10) (by omega);refine⟨by rw[List.all_append,i1,List.all_cons,h1];rfl,by rw[VO,i2,h2];omega,by simp,fun _=>?_⟩;have hl : 0<(Lib.decDigits (n / 10)).length:=List.length_pos_iff.2 i3;rw[List.getD_eq_getElem?_getD,List.getElem?_append_left hl,<-List.getD_eq_getElem?_getD];exact i4 (by omega)
theorem LU{n most:Nat}(h:(Lib.decDigits n).length<=most):pM most (Lib.decDigits n)=some n:=by
 obtain⟨h1,h2,h3,h4⟩:=C5 n;rw[O8 h3 h (fun hh=>?_) h1,h2];by_cases h0:n<10
 ·rw[Lib.decDigits_one h0] at hh;simp at hh
 ·exact h4 (by omega) hh.2
attribute [go_sem] Option.getD_some
end Go.D3
namespace Go.D3
open Go
set_option maxHeartbeats 4000000
set_option maxRecDepth 100000
set_option maxHeartbeats 1000000
theorem Lb{s:List UInt8}:qP s=bytes (s.map fun b=>(b.toNat:Int)):=by unfold qP bytes U;rw[List.map_map];rfl
theorem wrap_u8{n:Int}(h : 0<=n)(h1:n<256):IntKind.u8.wrap n=n:=by
 rw[kr ⟨by simp only[IntKind.min,IntKind.signed];simpa using h,by simp only[IntKind.max,IntKind.signed,IntKind.bits];simp;omega⟩]
attribute [go_sem] Lb
theorem nO{n:Int}(h : 0<=n)(h1:n<=4611686018427387900):(Lib.itoa n).length<=20:=by
 obtain⟨m,rfl⟩:∃m:Nat,n=m:=⟨n.toNat,by omega⟩;rw[Lib.itoa_nonneg];exact LS m (by omega)
def hZ(e:Int):UInt8:=UInt8.ofNat (97+e.toNat)
def Pth.dw(p:Pth):List UInt8:=64::(Lib.itoa p.st++p.ed.map hZ)
structure ku(p:Pth):Prop where
 st : 0<=p.st/\p.st<=8
 len:p.ed.length<=6
 ed:∀i,i<p.ed.length->0<=p.ed.getD i 0/\p.ed.getD i 0<8
theorem ku.vc{p:Pth}(h:ku p):p.dw.length<=40:=by
 have:=nO h.st.1 (by have:=h.st;omega);have:=h.len;unfold Pth.dw;simp only[List.length_cons,List.length_append,List.length_map];omega
def zW:List Nat:=[0,2,1,3,5,12,13,14]
def Hz:Sl:=ae Go.Proofs.Tryz.types Go.Proofs.Tryz.f118 zW []
theorem Pt:aD Go.Proofs.Tryz.prog Go.Proofs.Tryz.f118 zW Hz 1=true:=by decide +kernel
theorem GI(p:Pth)(h:ku p):al Go.Proofs.Tryz.prog 118 [.v (Pth.d p)] (.str p.dw):=by
 have hlen:=h.len;have hil:=nO h.st.1 (by have:=h.st;omega);refine aC Go.Proofs.Tryz.func118 Pt ?_;unfold Hz ae zW;simp only[go_sem];refine af uH rfl (.inl rfl) ?_;simp only[go_sem];refine⟨by simp only[maxLen];omega,by omega,?_⟩;refine aJ [4] (fun(i:Nat)=>[(3,.o (bytes (((64::Lib.itoa p.st).map fun b=>(b.toNat:Int))++(p.ed.take i).map fun e=>97+e))),(7,.int .i64 i)]) (fun i=>i<=p.ed.length) (fun i=>p.ed.length-i) 0 (by simp only[go_sem];rfl) (Nat.zero_le _) (by simp[mR,ek]) ?_;intro i hi;simp only[go_sem];refine⟨fun h1=>⟨h1,?_⟩,fun h1=>?_⟩
 ·have he:=h.ed i h1
  have hw:IntKind.u8.wrap (IntKind.i64.wrap (97+p.ed.getD i 0))=97+p.ed.getD i 0:=by
   rw[wrap_small (by omega) (by omega),wrap_u8 (by omega) (by omega)]
  rw[hw];refine⟨by simp;omega,i+1,h1,by omega,?_⟩;rw[wrap_small (by omega) (by omega),bT h1 0,List.map_append,<-List.append_assoc];rfl
 ·rw[List.take_of_length_le (by omega),List.map_append,List.map_map,List.map_map]
  have e1:(Lib.itoa p.st).map (byteOf ∘ fun b=>(b.toNat:Int))=Lib.itoa p.st:=by
   conv=>rhs;rw[<-List.map_id (Lib.itoa p.st)]
   refine List.map_congr_left fun b _=>?_
   show UInt8.ofNat ((b.toNat:Int)).toNat=b;rw[Int.toNat_natCast,UInt8.ofNat_toNat]
  have e2:p.ed.map (byteOf ∘ fun e=>97+e)=p.ed.map hZ:=List.map_congr_left fun e hm=>by
   obtain⟨j,hj,rfl⟩:=List.getElem_of_mem hm;have:=h.ed j hj;rw[aO hj] at this;show UInt8.ofNat (97+p.ed[j]).toNat=UInt8.ofNat (97+p.ed[j].toNat);congr 1;omega
  rw[e1,e2];rfl
end Go.D3
