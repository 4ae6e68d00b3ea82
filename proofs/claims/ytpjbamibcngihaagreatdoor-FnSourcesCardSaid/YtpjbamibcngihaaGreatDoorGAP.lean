/- CONTRACTS: data of schemas,the reference's side. -/
import Derived.Test.YtpjbamibcngihaaGreatDoorGAM
namespace Go.D3
open Go
set_option maxHeartbeats 4000000
set_option maxRecDepth 100000
def wb:List Nat:=[0,1,2,6,7,3,8,9]
def Cw:Sl:=ak Go.Proofs.Tryz.types Go.Proofs.Tryz.f99 wb []
theorem KX:aI Go.Proofs.Tryz.prog Go.Proofs.Tryz.f99 wb Cw 3=true:=by decide +kernel
theorem KU(s:aa)(sz:List Int)(mp:List (List Int))(hok:s.AM sz mp)(hsz:∀x∈sz,x<=4611686018427387900):aC Go.Proofs.Tryz.prog 99 [.v (aa.d s),.v (ints sz),.v (aK mp)] (pJ (s.iu sz mp s.lf.length)):=by
 refine fe fun hw=>?_
 simp only[dM,gf,aa.d,aa.cells,D.dh,fT] at hw;have hl:s.lf.length<=maxLen:=hw.1.2.2.2.1.1;obtain⟨hrt,hok⟩:=hok;refine aT Go.Proofs.Tryz.func99 KX ?_;unfold Cw ak wb;simp only[go_sem];refine aG [7] (fun(i:Nat)=>[(6,.int .i64 i)]) (fun i=>i<=s.lf.length/\s.iu sz mp i=none) (fun i=>s.lf.length-i) 0 (by simp only[go_sem];rfl) ⟨Nat.zero_le _,rfl⟩ rfl ?_;rintro i ⟨hi,ha⟩;simp only[go_sem];refine⟨fun h=>?_,fun h=>?_⟩
 ·obtain⟨aP,hrow⟩:=hok i h
  have hms:sz.getD (s.lf.getD i U.zero).st.toNat 0<=4611686018427387900:=by
   have hlt:(s.lf.getD i U.zero).st.toNat<sz.length:=by omega
   rw[aS hlt];exact hsz _ (List.getElem_mem _)
  have hbrk:∀o,rb mp (s.lf.getD i U.zero).ed (s.rt.getD i U.zero).ed (sz.getD (s.lf.getD i U.zero).st.toNat 0).toNat=o->(match o with | some r=>s.iu sz mp s.lf.length=some (i,r) | none=>s.iu sz mp (i+1)=none):=by
   intro o ho;cases o with
   | some r=>exact sS h ha (by rw[ho];rfl)
   | none=>exact sq ha (by rw[ho];rfl)
  refine aG [] (fun(r:Nat)=>[(7,.int .i64 r)]) (fun r=>r<=(sz.getD (s.lf.getD i U.zero).st.toNat 0).toNat/\rb mp (s.lf.getD i U.zero).ed (s.rt.getD i U.zero).ed r=none) (fun r=>(sz.getD (s.lf.getD i U.zero).st.toNat 0).toNat-r) 0 (by simp only[go_sem];rfl) ⟨Nat.zero_le _,rfl⟩ rfl ?_;rintro r ⟨hr,hb⟩;simp only[go_sem];refine⟨h,aP,fun h2=>?_,fun h2=>?_⟩
  ·obtain⟨o1,o2⟩:=hrow r h2
   refine⟨h,ax (Cs mp _ r o1) rfl (.inl rfl) ?_⟩;simp only[go_sem];refine⟨by omega,ax (Cs mp _ r o2) rfl (.inl rfl) ?_⟩;simp only[go_sem];refine⟨fun h3=>?_,fun h3=>⟨r+1,⟨by omega,sq hb (if_pos (by simpa using h3))⟩,by omega,by rw[wrap_small (by omega) (by omega)];rfl⟩⟩;have:=hbrk _ (sS (show r<(sz.getD (s.lf.getD i U.zero).st.toNat 0).toNat by omega) hb (if_neg (by simpa using h3)));simp only at this;rw[this];rfl
  ·have:=hbrk none (by rw[show(sz.getD (s.lf.getD i U.zero).st.toNat 0).toNat=r by omega];exact hb)
   simp only at this;exact⟨i+1,⟨h,this⟩,by omega,by rw[aN h hl]⟩
 ·rw[show i=s.lf.length by omega] at ha
  rw[ha];rfl
def wx:List Nat:=[0,2,1,3,4]
def CX:Sl:=ak Go.Proofs.Tryz.types Go.Proofs.Tryz.f54 wx []
theorem LL:aI Go.Proofs.Tryz.prog Go.Proofs.Tryz.f54 wx CX 1=true:=by decide +kernel
theorem La(s:aa)(hn : 0<=s.nd)(hn8:s.nd<=8)(h8:s.fr.length<=8):aC Go.Proofs.Tryz.prog 54 [.v (aa.d s)] (af.d ⟨List.replicate s.nd.toNat 0,List.replicate s.fr.length []⟩):=by
 refine aT Go.Proofs.Tryz.func54 LL ?_;unfold CX ak wx;simp only[go_sem];refine⟨by omega,?_⟩;refine aG [] (fun(k:Nat)=>[(4,.int .i64 k),(3,.box [.o (ints (List.replicate s.nd.toNat 0)),.o (aK (List.replicate k []))])]) (fun k=>k<=s.fr.length) (fun k=>s.fr.length-k) 0 (by simp only[go_sem];rfl) (Nat.zero_le _) rfl ?_;intro k hk;simp only[go_sem];rw[List.length_replicate];refine⟨fun h=>⟨by omega,k+1,h,by omega,?_⟩,fun h=>by rw[show k=s.fr.length by omega]⟩;rw[aN h (by simp only[maxLen];omega),<-List.replicate_succ']
theorem EH{s:aa}{d:af}(_:dT s)(hd:bX s d):s.jk d.sz d.mp=(List.range d.mp.length).all fun e=>!(d.mp.getD e []).contains (-1):=by
 have h17:bU 17 d.sz=true:=by
  unfold bU;rw[List.all_eq_true];intro x hx;obtain⟨j,hj,rfl⟩:=List.getElem_of_mem hx;have:=hd.fo j hj;rw[aS hj] at this;simp only[Bool.and_eq_true,decide_eq_true_eq];omega
 have h1:((d.sz.length:Int) == s.nd&&bU 17 d.sz&&(d.mp.length == s.fr.length))=true:=by rw[h17,hd.nd,hd.mp];simp
 unfold aa.jk;rw[h1,Bool.true_and]
 have:∀e,e∈List.range d.mp.length->s.kV d.sz d.mp e=!(d.mp.getD e []).contains (-1):=by
  intro e he;have he:=List.mem_range.1 he;unfold aa.kV;have hlen:(((d.mp.getD e []).length:Int) == d.sz.getD (s.fr.getD e 0).toNat 0)=true:=by rw[beq_iff_eq];exact hd.len e he
  rw[hlen,Bool.true_and,Bool.eq_iff_iff,Bool.not_eq_true',bU,List.all_eq_true];constructor
  ·intro h
   rw[<-Bool.not_eq_true,List.contains_iff_mem];intro hm;have:=h _ hm;simp at this
  ·intro h x hx
   obtain⟨j,hj,rfl⟩:=List.getElem_of_mem hx;have hv:=hd.val e j he hj;rw[aS hj] at hv
   have hne:(d.mp.getD e [])[j]≠-1:=fun hh=>by
    rw[<-Bool.not_eq_true,List.contains_iff_mem] at h;exact h (hh▸List.getElem_mem hj)
   simp only[Bool.and_eq_true,decide_eq_true_eq];omega
 rw[Bool.eq_iff_iff,List.all_eq_true,List.all_eq_true];exact⟨fun h e he=>this e he▸h e he,fun h e he=>by rw[this e he];exact h e he⟩
def wv:List Nat:=[0,1,4,2,3,5,6]
def CK:Sl:=ak Go.Proofs.Tryz.types Go.Proofs.Tryz.f69 wv []
theorem LI:aI Go.Proofs.Tryz.prog Go.Proofs.Tryz.f69 wv CK 2=true:=by decide +kernel
theorem rZ(s:aa)(d:af)(h:s.ok=true)(hd:bX s d):aC Go.Proofs.Tryz.prog 69 [.v (aa.d s),.v (af.d d)] (.bool (d.fM s)):=by
 have hs:=eQ (eK h).1;have hm:=hd.mp;have h8:=hs.f8;refine aT Go.Proofs.Tryz.func69 LI ?_;unfold CK ak wv;simp only[go_sem];refine aG [6] (fun(k:Nat)=>[(5,.int .i64 k)]) (fun k=>k<=d.mp.length/\(List.range k).all (fun e=>!(d.mp.getD e []).contains (-1))=true) (fun k=>d.mp.length-k) 0 (by simp only[go_sem];rfl) ⟨Nat.zero_le _,rfl⟩ rfl ?_;rintro k ⟨hk,ha⟩;simp only[go_sem];refine⟨fun h2=>⟨h2,ax (Mu (d.mp.getD k []) (-1) (by have:=hd.uT hs k;omega)) rfl (.inl rfl) ?_⟩,fun h2=>?_⟩
 ·simp only[go_sem]
  have hR:=EH hs hd;refine⟨fun h3=>?_,fun h3=>⟨k+1,⟨h2,?_⟩,by omega,by rw[aN h2 (by simp only[maxLen];omega)]⟩⟩
  ·unfold af.fM
   rw[hR];symm;rw[Bool.and_eq_false_iff,List.all_eq_false];exact .inl ⟨k,List.mem_range.2 h2,by rw[h3];simp⟩
  ·rw[List.range_succ,List.all_append,ha,Bool.true_and,List.all_cons,h3];rfl
 ·have hR:=EH hs hd
  rw[show k=d.mp.length by omega] at ha;rw[ha] at hR
  refine ax (KU s d.sz d.mp (IE h hR) (fun x hx=>by
   obtain⟨j,hj,rfl⟩:=List.getElem_of_mem hx;have:=hd.fo j hj;rw[aS hj] at this
   omega)) rfl (.inl (by cases s.iu d.sz d.mp s.lf.length<;>rfl)) ?_
  unfold af.fM;rw[hR];cases s.iu d.sz d.mp s.lf.length with
  | none =>
   simp only[pJ];simp only[go_sem]
   all_goals simp
  | some p =>
   obtain⟨i,r⟩:=p;simp only[pJ];simp only[go_sem]
   all_goals simp
   all_goals omega
end Go.D3
