/- CONTRACTS: data of schemas, the reference's side. -/
import Derived.Test.YtpjbamibcngihaaGreatDoorGAM
namespace Go.D3
open Go
set_option maxHeartbeats 4000000
set_option maxRecDepth 100000
def BQ:List Nat:=[0,1,2,6,7,3,8,9]
def JO:Sl:=ak Go.Proofs.Tryz.types Go.Proofs.Tryz.f99 BQ []
theorem R2:aF Go.Proofs.Tryz.prog Go.Proofs.Tryz.f99 BQ JO 3=true:=by decide +kernel
theorem U8(s:aa)(sz:List Int)(mp:List (List Int))(hok:s.sT sz mp)(hsz:∀x∈sz,x<=4611686018427387900):aC Go.Proofs.Tryz.prog 99 [.v (aa.d s),.v (ints sz),.v (aI mp)] (nB (s.fY sz mp s.lf.length)):=by
 refine ei fun hw=>?_
 simp only[dc,eW,aa.d,aa.cells,D.du,gu] at hw;have hl:s.lf.length<=maxLen:=hw.1.2.2.2.1.1;obtain⟨hrt,hok⟩:=hok;refine aQ Go.Proofs.Tryz.func99 R2 ?_;unfold JO ak BQ;simp only[go_sem];refine aE [7] (fun(i:Nat)=>[(6,.int .i64 i)]) (fun i=>i<=s.lf.length/\s.fY sz mp i=none) (fun i=>s.lf.length-i) 0 (by simp only[go_sem];rfl) ⟨Nat.zero_le _,rfl⟩ rfl ?_;rintro i ⟨hi,ha⟩;simp only[go_sem];refine⟨fun h=>?_,fun h=>?_⟩
 ·obtain⟨aO,hrow⟩:=hok i h
  have hms:sz.getD (s.lf.getD i U.zero).st.toNat 0<=4611686018427387900:=by
   have hlt:(s.lf.getD i U.zero).st.toNat<sz.length:=by omega
   rw[aS hlt];exact hsz _ (List.getElem_mem _)
  have hbrk:∀o,o7 mp (s.lf.getD i U.zero).ed (s.rt.getD i U.zero).ed (sz.getD (s.lf.getD i U.zero).st.toNat 0).toNat=o->(match o with | some r=>s.fY sz mp s.lf.length=some (i,r) | none=>s.fY sz mp (i+1)=none):=by
   intro o ho;cases o with
   | some r=>exact tf h ha (by rw[ho];rfl)
   | none=>exact tj ha (by rw[ho];rfl)
  refine aE [] (fun(r:Nat)=>[(7,.int .i64 r)]) (fun r=>r<=(sz.getD (s.lf.getD i U.zero).st.toNat 0).toNat/\o7 mp (s.lf.getD i U.zero).ed (s.rt.getD i U.zero).ed r=none) (fun r=>(sz.getD (s.lf.getD i U.zero).st.toNat 0).toNat-r) 0 (by simp only[go_sem];rfl) ⟨Nat.zero_le _,rfl⟩ rfl ?_;rintro r ⟨hr,hb⟩;simp only[go_sem];refine⟨h,aO,fun h2=>?_,fun h2=>?_⟩
  ·obtain⟨o1,o2⟩:=hrow r h2
   refine⟨h,av (H0 mp _ r o1) rfl (.inl rfl) ?_⟩;simp only[go_sem];refine⟨by omega,av (H0 mp _ r o2) rfl (.inl rfl) ?_⟩;simp only[go_sem];refine⟨fun h3=>?_,fun h3=>⟨r+1,⟨by omega,tj hb (if_pos (by simpa using h3))⟩,by omega,by rw[wrap_small (by omega) (by omega)];rfl⟩⟩;have:=hbrk _ (tf (show r<(sz.getD (s.lf.getD i U.zero).st.toNat 0).toNat by omega) hb (if_neg (by simpa using h3)));simp only at this;rw[this];rfl
  ·have:=hbrk none (by rw[show(sz.getD (s.lf.getD i U.zero).st.toNat 0).toNat=r by omega];exact hb)
   simp only at this;exact⟨i+1,⟨h,this⟩,by omega,by rw[aM h hl]⟩
 ·rw[show i=s.lf.length by omega] at ha
  rw[ha];rfl
def B7:List Nat:=[0,2,1,3,4]
def J5:Sl:=ak Go.Proofs.Tryz.types Go.Proofs.Tryz.f54 B7 []
theorem Sp:aF Go.Proofs.Tryz.prog Go.Proofs.Tryz.f54 B7 J5 1=true:=by decide +kernel
theorem Vg(s:aa)(hn : 0<=s.nd)(hn8:s.nd<=8)(h8:s.fr.length<=8):aC Go.Proofs.Tryz.prog 54 [.v (aa.d s)] (af.d ⟨List.replicate s.nd.toNat 0,List.replicate s.fr.length []⟩):=by
 refine aQ Go.Proofs.Tryz.func54 Sp ?_;unfold J5 ak B7;simp only[go_sem];refine⟨by omega,?_⟩;refine aE [] (fun(k:Nat)=>[(4,.int .i64 k),(3,.box [.o (ints (List.replicate s.nd.toNat 0)),.o (aI (List.replicate k []))])]) (fun k=>k<=s.fr.length) (fun k=>s.fr.length-k) 0 (by simp only[go_sem];rfl) (Nat.zero_le _) rfl ?_;intro k hk;simp only[go_sem];rw[List.length_replicate];refine⟨fun h=>⟨by omega,k+1,h,by omega,?_⟩,fun h=>by rw[show k=s.fr.length by omega]⟩;rw[aM h (by simp only[maxLen];omega),<-List.replicate_succ']
theorem H9{s:aa}{d:af}(_:cQ s)(hd:br s d):s.gK d.sz d.mp=(List.range d.mp.length).all fun e=>!(d.mp.getD e []).contains (-1):=by
 have h17:bV 17 d.sz=true:=by
  unfold bV;rw[List.all_eq_true];intro x hx;obtain⟨j,hj,rfl⟩:=List.getElem_of_mem hx;have:=hd.eH j hj;rw[aS hj] at this;simp only[Bool.and_eq_true,decide_eq_true_eq];omega
 have h1:((d.sz.length:Int) == s.nd&&bV 17 d.sz&&(d.mp.length == s.fr.length))=true:=by rw[h17,hd.nd,hd.mp];simp
 unfold aa.gK;rw[h1,Bool.true_and]
 have:∀e,e∈List.range d.mp.length->s.kn d.sz d.mp e=!(d.mp.getD e []).contains (-1):=by
  intro e he;have he:=List.mem_range.1 he;unfold aa.kn;have hlen:(((d.mp.getD e []).length:Int) == d.sz.getD (s.fr.getD e 0).toNat 0)=true:=by rw[beq_iff_eq];exact hd.len e he
  rw[hlen,Bool.true_and,Bool.eq_iff_iff,Bool.not_eq_true',bV,List.all_eq_true];constructor
  ·intro h
   rw[<-Bool.not_eq_true,List.contains_iff_mem];intro hm;have:=h _ hm;simp at this
  ·intro h x hx
   obtain⟨j,hj,rfl⟩:=List.getElem_of_mem hx;have hv:=hd.val e j he hj;rw[aS hj] at hv
   have hne:(d.mp.getD e [])[j]≠-1:=fun hh=>by
    rw[<-Bool.not_eq_true,List.contains_iff_mem] at h;exact h (hh▸List.getElem_mem hj)
   simp only[Bool.and_eq_true,decide_eq_true_eq];omega
 rw[Bool.eq_iff_iff,List.all_eq_true,List.all_eq_true];exact⟨fun h e he=>this e he▸h e he,fun h e he=>by rw[this e he];exact h e he⟩
def Ci:List Nat:=[0,1,4,2,3,5,6]
def Kg:Sl:=ak Go.Proofs.Tryz.types Go.Proofs.Tryz.f69 Ci []
theorem SB:aF Go.Proofs.Tryz.prog Go.Proofs.Tryz.f69 Ci Kg 2=true:=by decide +kernel
theorem u9(s:aa)(d:af)(h:s.ok=true)(hd:br s d):aC Go.Proofs.Tryz.prog 69 [.v (aa.d s),.v (af.d d)] (.bool (d.dP s)):=by
 have hs:=eA (dM h).1;have hm:=hd.mp;have h8:=hs.f8;refine aQ Go.Proofs.Tryz.func69 SB ?_;unfold Kg ak Ci;simp only[go_sem];refine aE [6] (fun(k:Nat)=>[(5,.int .i64 k)]) (fun k=>k<=d.mp.length/\(List.range k).all (fun e=>!(d.mp.getD e []).contains (-1))=true) (fun k=>d.mp.length-k) 0 (by simp only[go_sem];rfl) ⟨Nat.zero_le _,rfl⟩ rfl ?_;rintro k ⟨hk,ha⟩;simp only[go_sem];refine⟨fun h2=>⟨h2,av (UT (d.mp.getD k []) (-1) (by have:=hd.mA hs k;omega)) rfl (.inl rfl) ?_⟩,fun h2=>?_⟩
 ·simp only[go_sem]
  have hR:=H9 hs hd;refine⟨fun h3=>?_,fun h3=>⟨k+1,⟨h2,?_⟩,by omega,by rw[aM h2 (by simp only[maxLen];omega)]⟩⟩
  ·unfold af.dP
   rw[hR];symm;rw[Bool.and_eq_false_iff,List.all_eq_false];exact .inl ⟨k,List.mem_range.2 h2,by rw[h3];simp⟩
  ·rw[List.range_succ,List.all_append,ha,Bool.true_and,List.all_cons,h3];rfl
 ·have hR:=H9 hs hd
  rw[show k=d.mp.length by omega] at ha;rw[ha] at hR
  refine av (U8 s d.sz d.mp (wD h hR) (fun x hx=>by
   obtain⟨j,hj,rfl⟩:=List.getElem_of_mem hx;have:=hd.eH j hj;rw[aS hj] at this
   omega)) rfl (.inl (by cases s.fY d.sz d.mp s.lf.length<;>rfl)) ?_
  unfold af.dP;rw[hR];cases s.fY d.sz d.mp s.lf.length with
  | none =>
   simp only[nB];simp only[go_sem]
   all_goals simp
  | some p =>
   obtain⟨i,r⟩:=p;simp only[nB];simp only[go_sem]
   all_goals simp
   all_goals omega
end Go.D3
