/- CONTRACTS: data of schemas, the reference's side. -/
import Derived.Test.YtaknpcdnmecblaaGreatDoorGAS
namespace Go.D3
open Go Proofs
set_option maxHeartbeats 4000000
set_option maxRecDepth 100000
def DR:List Nat:=[0,1,2,6,7,3,8,9]
def LZ:Sl:=ah Tryz.types Tryz.f47 DR []
theorem Vy:aE Tryz.prog Tryz.f47 DR LZ 3=true:=by decide +kernel
theorem Y8(s:aa)(sz:List Int)(mp:List (List Int))(S:s.yi sz mp)(ad:∀x∈sz,x<=4611686018427387900):aA Tryz.prog 47 [.v (aa.d s),.v (ints sz),.v (aC mp)] (nQ (s.brk sz mp s.lf.length)):=by
 refine iA fun hw=>?_
 simp only[eL,iJ,aa.d,aa.cells,D.ek,iH] at hw;have hl:s.lf.length<=maxLen:=hw.1.2.2.2.1.1;obtain⟨ao,S⟩:=S;refine aQ Tryz.func47 Vy ?_;unfold LZ ah DR;simp only[go_sem];refine au [7] (fun(i:Nat)=>[(6,.int .i64 i)]) (fun i=>i<=s.lf.length/\s.brk sz mp i=none) (fun i=>s.lf.length-i) 0 (by simp only[go_sem];rfl) ⟨Nat.zero_le _,rfl⟩ rfl ?_;rintro i ⟨hi,W⟩;simp only[go_sem];refine⟨fun h=>?_,fun h=>?_⟩
 ·obtain⟨aK,V⟩:=S i h
  have ag:sz.getD (s.lf.getD i U.zero).st.toNat 0<=4611686018427387900:=by
   have ab:(s.lf.getD i U.zero).st.toNat<sz.length:=by omega
   rw[aM ab];exact ad _ (List.getElem_mem _)
  have I:∀o,qZ mp (s.lf.getD i U.zero).ed (s.rt.getD i U.zero).ed (sz.getD (s.lf.getD i U.zero).st.toNat 0).toNat=o->(match o with | some r=>s.brk sz mp s.lf.length=some (i,r) | none=>s.brk sz mp (i+1)=none):=by
   intro o ho;cases o with
   | some r=>exact vF h W (by rw[ho];rfl)
   | none=>exact vG W (by rw[ho];rfl)
  refine au [] (fun(r:Nat)=>[(7,.int .i64 r)]) (fun r=>r<=(sz.getD (s.lf.getD i U.zero).st.toNat 0).toNat/\qZ mp (s.lf.getD i U.zero).ed (s.rt.getD i U.zero).ed r=none) (fun r=>(sz.getD (s.lf.getD i U.zero).st.toNat 0).toNat-r) 0 (by simp only[go_sem];rfl) ⟨Nat.zero_le _,rfl⟩ rfl ?_;rintro r ⟨hr,Z⟩;simp only[go_sem];refine⟨h,aK,fun h2=>?_,fun h2=>?_⟩
  ·obtain⟨o1,o2⟩:=V r h2
   refine⟨h,aj (Bf mp _ r o1) rfl (.inl rfl) ?_⟩;simp only[go_sem];refine⟨by omega,aj (Bf mp _ r o2) rfl (.inl rfl) ?_⟩;simp only[go_sem];refine⟨fun Y=>?_,fun Y=>⟨r+1,⟨by omega,vG Z (if_pos (by simpa using Y))⟩,by omega,by rw[wrap_small (by omega) (by omega)];rfl⟩⟩;have:=I _ (vF (show r<(sz.getD (s.lf.getD i U.zero).st.toNat 0).toNat by omega) Z (if_neg (by simpa using Y)));simp only at this;rw[this];rfl
  ·have:=I none (by rw[show(sz.getD (s.lf.getD i U.zero).st.toNat 0).toNat=r by omega];exact Z)
   simp only at this;exact⟨i+1,⟨h,this⟩,by omega,by rw[aw h hl]⟩
 ·rw[show i=s.lf.length by omega] at W
  rw[W];rfl
end Go.D3
