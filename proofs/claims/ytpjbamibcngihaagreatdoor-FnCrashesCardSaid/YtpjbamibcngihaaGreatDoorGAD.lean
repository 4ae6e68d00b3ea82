/- NUMBERS IN DECIMAL: plain laws; CONTRACTS of the program's side. -/
import Derived.Test.YtpjbamibcngihaaGreatDoorGAC
import Derived.Test.YtpjbamibcngihaaGreatDoorGAB
import Derived.Laws.RangeAny
import Derived.Lib.ParseIntBCases
import Derived.Lib.ItoaMem
namespace Go.D3
open Go
set_option maxHeartbeats 4000000
set_option maxRecDepth 100000
def bI(b:UInt8):Bool:=decide (48<=b.toNat)&&decide (b.toNat<=57)
def dZ(n:Nat)(s:List UInt8):Nat:=s.foldl (fun n b=>10*n+(b.toNat-48)) n
def bA(most:Nat)(s:List UInt8):Option Nat:=if(!s.isEmpty&&decide (s.length<=most)&&!(decide (1<s.length)&&s.getD 0 0 == 48)&&s.all bI)=true then some (dZ 0 s) else none
theorem vH{b:UInt8}{s:List UInt8}{n:Nat}:dZ n (s++[b])=10*dZ n s+(b.toNat-48):=by unfold dZ;rw[List.foldl_append,List.foldl_cons,List.foldl_nil]
theorem sr{b:UInt8}{s:List UInt8}{n:Nat}:dZ n (b::s)=dZ (10*n+(b.toNat-48)) s:=by unfold dZ;rw[List.foldl_cons]
theorem vG{s:List UInt8}(h:s.all bI=true)(n:Nat):dZ n s<(n+1)*10 ^ s.length:=by
 induction s generalizing n with
 | nil=>rw[List.length_nil,Nat.pow_zero];exact Nat.lt_of_lt_of_eq (Nat.lt_succ_self n) (Nat.mul_one _).symm
 | cons b s ih =>
  simp only[List.all_cons,Bool.and_eq_true,bI,decide_eq_true_eq] at h;have:=ih h.2 (10*n+(b.toNat-48));rw[sr,List.length_cons,Nat.pow_succ,Nat.mul_comm (10 ^ s.length),<-Nat.mul_assoc];exact Nat.lt_of_lt_of_le this (Nat.mul_le_mul_right _ (by omega))
theorem Aj{s:List UInt8}{i:Nat}(h:i<s.length):s.take (i+1)=s.take i++[s.getD i 0]:=by rw[aS h,List.take_succ_eq_append_getElem h]
theorem CS{s:List UInt8}{i:Nat}(h:i<s.length)(ha:(s.take i).all bI=true)(hb:bI (s.getD i 0)=true):(s.take (i+1)).all bI=true:=by
 rw[Aj h,List.all_append,ha];simpa using hb
theorem F3{most:Nat}{s:List UInt8}{i:Nat}(h:i<s.length)(hb:bI (s.getD i 0)=false):bA most s=none:=by
 unfold bA;rw[if_neg];intro hh;simp only[Bool.and_eq_true] at hh;have:=List.all_eq_true.1 hh.2 _ (List.getElem_mem h);rw[aS h] at hb;rw[hb] at this;cases this
theorem yd{most:Nat}{s:List UInt8}(h0:s≠[])(h1:s.length<=most)(h2:¬(1<s.length/\s.getD 0 0=48))(h3:s.all bI=true):bA most s=some (dZ 0 s):=by
 unfold bA;rw[if_pos];rw[h3];simp only[Bool.and_true,Bool.and_eq_true,Bool.not_eq_true',decide_eq_true_eq,Bool.and_eq_false_iff,decide_eq_false_iff_not,beq_eq_false_iff_ne];exact⟨⟨by cases s<;>simp_all,h1⟩,by by_cases h : 1<s.length<;>simp_all⟩
theorem F4{most:Nat}{s:List UInt8}(h:s=[]\/most<s.length\/(1<s.length/\s.getD 0 0=48)):bA most s=none:=by
 unfold bA;rw[if_neg];intro hh;simp only[Bool.and_eq_true,Bool.not_eq_true',decide_eq_true_eq,Bool.and_eq_false_iff,decide_eq_false_iff_not,beq_eq_false_iff_ne] at hh;rcases h with rfl | h | ⟨h,h'⟩
 ·simp at hh
 ·omega
 ·rcases hh.1.2 with h2 | h2
  ·exact h2 h
  ·exact h2 h'
def kL:Option Nat->D
 | some n=>.int .i64 n
 | none=>.int .i64 (-1)
theorem rE{k:Nat}(h:k<=9) : 10 ^ k<=1000000000:=Nat.pow_le_pow_right (n:=10) (by omega) h
theorem MC{b:UInt8}(h:bI b=true):IntKind.u8.wrap ((b.toNat:Int)-48)=((b.toNat-48:Nat):Int):=by
 simp only[bI,Bool.and_eq_true,decide_eq_true_eq] at h;rw[iH ⟨by simp[IntKind.min,IntKind.signed];omega,by simp[IntKind.max,IntKind.signed,IntKind.bits];omega⟩];omega
def BC:List Nat:=[0,2,3,4]
def JA:Sl:=ak Go.Proofs.Tryz.types Go.Proofs.Tryz.f84 BC []
theorem RI:aF Go.Proofs.Tryz.prog Go.Proofs.Tryz.f84 BC JA 1=true:=by decide +kernel
theorem pX(s:List UInt8):aC Go.Proofs.Tryz.prog 84 [.v (.str s)] (kL (bA 9 s)):=by
 refine aQ Go.Proofs.Tryz.func84 RI ?_;unfold JA ak BC;simp only[go_sem];refine⟨fun h=>by simpa using h,fun h=>⟨h,by decide,by simp only[Bool.and_eq_true,decide_eq_true_eq] at h;omega⟩,fun h=>by simp at h|-;exact⟨h,fun h2=>⟨h,h2⟩⟩,(fun h=>by simp only[Bool.or_eq_false_iff,Bool.and_eq_true,Bool.not_eq_true'] at h|-;exact h),fun h=>?_,fun h=>?_⟩
 ·rw[F4];rfl
  simp only[Bool.or_eq_true,Bool.and_eq_true,decide_eq_true_eq,beq_iff_eq] at h;rcases h with(h | h) | ⟨h,h'⟩
  ·exact .inl (List.length_eq_zero_iff.1 (by omega))
  ·exact .inr (.inl (by omega))
  ·exact .inr (.inr ⟨by omega,UInt8.toNat_inj.1 (by show _=48;omega)⟩)
 ·simp only[Bool.or_eq_false_iff,beq_eq_false_iff_ne,decide_eq_false_iff_not,Bool.and_eq_false_iff] at h
  obtain⟨⟨h0,h9⟩,hz⟩:=h;refine aE [] (fun(i:Nat)=>[(2,.int .i64 (dZ 0 (s.take i))),(3,.int .i64 i)]) (fun i=>i<=s.length/\(s.take i).all bI=true) (fun i=>s.length-i) 0 (by simp only[go_sem];rfl) ⟨Nat.zero_le _,rfl⟩ rfl ?_;rintro i ⟨hi,ha⟩;simp only[go_sem];refine⟨fun h=>⟨h,fun h1=>⟨h1,h⟩,fun h1=>by simpa using h1,fun h1=>?_,fun h1=>⟨h,i+1,⟨h,CS h ha ?_⟩,by omega,?_⟩⟩,fun h=>?_⟩
  ·rw[F3 h];rfl
   simp only[Bool.or_eq_true,decide_eq_true_eq] at h1;simp only[bI,Bool.and_eq_false_iff,decide_eq_false_iff_not];omega
  ·simp only[Bool.or_eq_false_iff,decide_eq_false_iff_not] at h1
   simp only[bI,Bool.and_eq_true,decide_eq_true_eq];omega
  ·have hd:bI (s.getD i 0)=true:=by
    simp only[Bool.or_eq_false_iff,decide_eq_false_iff_not] at h1;simp only[bI,Bool.and_eq_true,decide_eq_true_eq];omega
   have hv:=vG ha 0;have hp:=rE (k:=(s.take i).length) (by rw[List.length_take];omega);have hb:=(s.getD i 0).toNat_lt;rw[MC hd,Aj h,vH,wrap_small (n:=(dZ 0 (s.take i):Int)*10) (by omega) (by omega),wrap_small (n:=(((s.getD i 0).toNat-48:Nat):Int)) (by omega) (by omega),wrap_small (by omega) (by omega),wrap_small (n:=(i:Int)+1) (by omega) (by omega)];congr 4
   all_goals omega
  ·rw[List.take_of_length_le (by omega)] at ha|-
   rw[yd (by rintro rfl;simp at h0) (by omega) (fun hh=>by rw[hh.2] at hz;exact hz.elim (fun hz=>by omega) fun hz=>hz (by decide)) ha];rfl
end Go.D3
namespace Go.D3
open Go
set_option maxRecDepth 100000
theorem DR{m:Nat}(h:m<10):bI (UInt8.ofNat (48+m))=true/\(UInt8.ofNat (48+m)).toNat-48=m:=by
 have:(UInt8.ofNat (48+m)).toNat=48+m:=by rw[UInt8.toNat_ofNat',Nat.mod_eq_of_lt (by omega)]
 unfold bI;rw[this];exact⟨by simp only[Bool.and_eq_true,decide_eq_true_eq];omega,by omega⟩
theorem Ga{b:UInt8}(h:bI b=true):UInt8.ofNat (48+(b.toNat-48))=b:=by
 simp only[bI,Bool.and_eq_true,decide_eq_true_eq] at h;rw[show 48+(b.toNat-48)=b.toNat by omega,UInt8.ofNat_toNat]
theorem wY(n:Nat):(Lib.decDigits n).all bI=true/\dZ 0 (Lib.decDigits n)=n/\Lib.decDigits n≠[]/\(0<n->(Lib.decDigits n).getD 0 0≠48):=by
 induction n using Nat.strongRecOn with
 | _ n ih =>
  by_cases h:n<10
  ·rw[Lib.decDigits_one h]
   obtain⟨h1,h2⟩:=DR h;refine⟨by rw[List.all_cons,h1];rfl,by rw[sr,h2,Nat.mul_zero,Nat.zero_add];rfl,by simp,fun h0 hh=>?_⟩;have hh:UInt8.ofNat (48+n)=48:=hh;rw[hh] at h2;have:(48:UInt8).toNat-48=0:=by decide
   omega
  ·rw[s5 h]
   obtain⟨h1,h2⟩:=DR (show n % 10<10 by omega);obtain⟨i1,i2,i3,i4⟩:=ih (n / 10) (by omega);refine⟨by rw[List.all_append,i1,List.all_cons,h1];rfl,by rw[vH,i2,h2];omega,by simp,fun _=>?_⟩;have hl : 0<(Lib.decDigits (n / 10)).length:=List.length_pos_iff.2 i3;rw[List.getD_eq_getElem?_getD,List.getElem?_append_left hl,<-List.getD_eq_getElem?_getD];exact i4 (by omega)
theorem wZ{n most:Nat}(h:(Lib.decDigits n).length<=most):bA most (Lib.decDigits n)=some n:=by
 obtain⟨h1,h2,h3,h4⟩:=wY n;rw[yd h3 h (fun hh=>?_) h1,h2];by_cases h0:n<10
 ·rw[Lib.decDigits_one h0] at hh;simp at hh
 ·exact h4 (by omega) hh.2
theorem uu{most n:Nat}{s:List UInt8}(h:bA most s=some n):s≠[]/\s.length<=most/\¬(1<s.length/\s.getD 0 0=48)/\s.all bI=true/\dZ 0 s=n:=by
 unfold bA at h;split at h
 ·rename_i hh
  simp only[Bool.and_eq_true,Bool.not_eq_true',decide_eq_true_eq,Bool.and_eq_false_iff,decide_eq_false_iff_not,beq_eq_false_iff_ne] at hh;obtain⟨⟨⟨a1,a2⟩,a3⟩,a4⟩:=hh;exact⟨by rintro rfl;simp at a1,a2,fun h=>a3.elim (fun a=>a h.1) fun a=>a h.2,a4,by injection h⟩
 ·cases h
theorem Xb{s:List UInt8}{n:Nat}:n<=dZ n s:=by
 induction s generalizing n with
 | nil=>exact Nat.le_refl _
 | cons b s ih=>rw[sr];exact Nat.le_trans (by omega) ih
theorem MB:∀(k:Nat)(s:List UInt8),s.length=k->s≠[]->¬(1<s.length/\s.getD 0 0=48)->s.all bI=true->Lib.decDigits (dZ 0 s)=s:=by
 intro k;induction k with
 | zero=>intro s h h0;exact absurd (List.length_eq_zero_iff.1 h) h0
 | succ k ih =>
  intro s h h0 hz ha;obtain⟨t,b,rfl⟩:∃t b,s=t++[b]:=⟨s.dropLast,s.getLast h0,(List.dropLast_concat_getLast h0).symm⟩;rw[List.all_append,Bool.and_eq_true] at ha;have hb:bI b=true:=by simpa using ha.2
  have hb2:=hb;simp only[bI,Bool.and_eq_true,decide_eq_true_eq] at hb2;rw[vH];rw[List.length_append,List.length_cons,List.length_nil] at h hz;cases t with
  | nil=>rw[show dZ 0 []=0 from rfl,Lib.decDigits_one (by omega),Nat.mul_zero,Nat.zero_add,Ga hb];rfl
  | cons c t =>
   have hc:c≠48:=fun hc=>hz ⟨by simp,by subst hc;rfl⟩
   have hcd:bI c=true:=by have:=ha.1;simp only[List.all_cons,Bool.and_eq_true] at this;exact this.1
   simp only[bI,Bool.and_eq_true,decide_eq_true_eq] at hcd;have hc2:c.toNat≠48:=fun hh=>hc (UInt8.toNat_inj.1 hh)
   have hv : 1<=dZ 0 (c::t):=by rw[sr];exact Nat.le_trans (by omega) Xb
   rw[s5 (by omega),show(10*dZ 0 (c::t)+(b.toNat-48)) / 10=dZ 0 (c::t) by omega,show(10*dZ 0 (c::t)+(b.toNat-48)) % 10=b.toNat-48 by omega,Ga hb,
    ih (c::t) (by omega) (by simp) (fun hh=>hc hh.2) ha.1]
theorem Qi{most n:Nat}{s:List UInt8}(h:bA most s=some n):Lib.decDigits n=s:=by
 obtain⟨h1,h2,h3,h4,h5⟩:=uu h;rw[<-h5];exact MB _ s rfl h1 h3 h4
theorem Qj{n:Nat}{s:List UInt8}(h:bA 9 s=some n):n<1000000000:=by
 obtain⟨h1,h2,h3,h4,h5⟩:=uu h;have:=vG h4 0;have:=rE h2;omega
theorem S6{s:List UInt8}(h:s.all bI=true):∀acc,(acc+1)*10 ^ s.length<=1000000000->Lib.parseUint10 acc s=.ok (dZ acc s):=by
 induction s with
 | nil=>intro acc _;rfl
 | cons b s ih =>
  intro acc hacc;simp only[List.all_cons,Bool.and_eq_true,bI,decide_eq_true_eq] at h;rw[List.length_cons,Nat.pow_succ,Nat.mul_comm (10 ^ s.length),<-Nat.mul_assoc] at hacc;have hp : 1<=10 ^ s.length:=Nat.one_le_pow _ _ (by decide);have h1:(acc+1)*10<=(acc+1)*10*10 ^ s.length:=Nat.le_mul_of_pos_right _ hp;have:=ih h.2 (acc*10+(b.toNat-48)) (Nat.le_trans (Nat.mul_le_mul_right _ (by omega)) hacc);rw[Lib.parseUint10,if_pos h.1,if_neg (by omega),if_neg (by omega),this,sr,Nat.mul_comm acc]
def lz(s:List UInt8):Int:=match Lib.parseIntB 64 s with
 | .ok v=>v
 | .range=>Lib.intSat 64 s
 | _=>0
theorem yM{n:Nat}{s:List UInt8}(h:bA 9 s=some n):Lib.parseIntB 64 s=.ok (n:Int):=by
 obtain⟨h1,h2,h3,h4,h5⟩:=uu h;cases s with
 | nil=>exact absurd rfl h1
 | cons c r =>
  have hc:bI c=true:=by simp only[List.all_cons,Bool.and_eq_true] at h4;exact h4.1
  simp only[bI,Bool.and_eq_true,decide_eq_true_eq] at hc;rw[Lib.parseIntB_plain 64 c r (by omega) (by omega),Lib.parseUintB_64];unfold Lib.parseMag;rw[if_neg (by simp),S6 h4 0 (by rw[Nat.zero_add,Nat.one_mul];exact rE h2),h5];have:=Qj h;show(if 2 ^ (64-1)<=n then _ else _)=_;rw[if_neg (by omega)]
theorem Tf{n:Nat}{s:List UInt8}(h:bA 9 s=some n):lz s=n:=by unfold lz;rw[yM h]
theorem Om{s:List UInt8}{v:Int}(hp:Lib.parseIntB 64 s=.ok v):(decide (s.length<=9)&&(Lib.itoa v == s)&&decide (0<=v))=(bA 9 s).isSome:=by
 cases h:bA 9 s with
 | some n =>
  have:=yM h;rw[hp] at this;injection this with this
  subst this;have h2:=(uu h).2.1;rw[Lib.itoa_nonneg,Qi h];simp[h2]
 | none =>
  show _=false;rw[Bool.eq_false_iff];intro hh;simp only[Bool.and_eq_true,decide_eq_true_eq,beq_iff_eq] at hh;obtain⟨⟨h1,h2⟩,h3⟩:=hh;obtain⟨n,rfl⟩:∃n:Nat,v=n:=⟨v.toNat,by omega⟩;rw[Lib.itoa_nonneg] at h2;rw[<-h2] at h h1;rw[wZ h1] at h;cases h
theorem Fv{s:List UInt8}(hp:∀v,Lib.parseIntB 64 s≠.ok v):(bA 9 s).isSome=false:=by
 cases h:bA 9 s with
 | some n=>exact absurd (yM h) (hp n)
 | none=>rfl
def AT:List Nat:=[0,2,3,4,5]
def IT:Sl:=ak Go.Proofs.Tryz.types Go.Proofs.Tryz.f145 AT []
theorem QZ:aF Go.Proofs.Tryz.prog Go.Proofs.Tryz.f145 AT IT 1=true:=by decide +kernel
theorem Uw(s:List UInt8)(hs:s.length<=281474976710656):aC Go.Proofs.Tryz.prog 145 [.v (.str s)] (.au [.int .i64 (lz s),.bool (bA 9 s).isSome]):=by
 refine aQ Go.Proofs.Tryz.func145 QZ ?_;unfold IT ak AT;simp only[go_sem];refine av (UK hs) rfl (.inr trivial) ?_;unfold yP;cases hp:Lib.parseIntB 64 s with
 | ok v =>
  have hv:lz s=v:=by unfold lz;rw[hp]
  rw[<-Om hp,hv];simp only[go_sem];refine bt (fun _=>kE) rfl (fun h=>h) (.inl rfl) ?_;simp only[go_sem];rw[show decide ((s.length:Int)<=9)=decide (s.length<=9) from decide_eq_decide.2 (by omega)]
 | range =>
  have hv:lz s=Lib.intSat 64 s:=by unfold lz;rw[hp]
  rw[Fv (by rw[hp];intro v h;cases h),hv];simp only[go_sem];refine bt (res:=.str []) (fun h=>by cases h) rfl (fun h=>by cases h) (.inl rfl) ?_;simp only[go_sem]
 | _ =>
  have hv:lz s=0:=by unfold lz;rw[hp]
  rw[Fv (by rw[hp];intro v h;cases h),hv];simp only[go_sem];refine bt (res:=.str []) (fun h=>by cases h) rfl (fun h=>by cases h) (.inl rfl) ?_;simp only[go_sem]
theorem Nk{e:Nat}(h : 48<=e/\e<=57):IntKind.i32.wrap ((e:Int)-48)=((e-48:Nat):Int):=by
 rw[iH ⟨by simp[IntKind.min,IntKind.signed,IntKind.bits];omega,by simp[IntKind.max,IntKind.signed,IntKind.bits];omega⟩];omega
theorem M0:gl 0=some (.ptr [eS]):=rfl
attribute [go_sem] M0 Option.getD_some
theorem zC{s:List UInt8}{i:Nat}(h:i<s.length):(bI (s.getD i 0)=true/\cO s i=((s.getD i 0).toNat,1))\/(bI (s.getD i 0)=false/\((cO s i).1<48\/57<(cO s i).1)):=by
 have hsz:i<(⟨s.toArray⟩:ByteArray).size:=by show i<s.toArray.size;simpa using h
 have hg:(⟨s.toArray⟩:ByteArray)[i]'hsz=s.getD i 0:=by rw[aS h];rfl
 unfold cO bI;by_cases ha:(s.getD i 0).toNat<128
 ·rw[decode_ascii _ _ hsz (by rw[hg];exact ha),hg]
  by_cases hd : 48<=(s.getD i 0).toNat/\(s.getD i 0).toNat<=57
  ·exact .inl ⟨by simp only[Bool.and_eq_true,decide_eq_true_eq];exact hd,rfl⟩
  ·exact .inr ⟨by simp only[Bool.and_eq_false_iff,decide_eq_false_iff_not];omega,by show _<_\/_<_;omega⟩
 ·have:=(decode_high ⟨s.toArray⟩ i hsz (by rw[hg];omega)).1
  exact .inr ⟨by simp only[Bool.and_eq_false_iff,decide_eq_false_iff_not];omega,.inr (by omega)⟩
def jl:Option Nat->D
 | some n=>.au [.int .i64 n,.bj]
 | none=>.au [.int .i64 0,eS]
def AM:List Nat:=[0,2,3,4,5,6,8,9]
def IK:Sl:=ak Go.Proofs.Tryz.types Go.Proofs.Tryz.f133 AM []
theorem QR:aF Go.Proofs.Tryz.prog Go.Proofs.Tryz.f133 AM IK 1=true:=by decide +kernel
theorem rM(s:List UInt8):aC Go.Proofs.Tryz.prog 133 [.v (.str s)] (jl (bA 6 s)):=by
 refine ei fun hw=>?_
 simp only[dc,D.du] at hw;have hl:s.length<=maxLen:=hw.1;refine aQ Go.Proofs.Tryz.func133 QR ?_;unfold IK ak AM;simp only[go_sem];refine aE [7] (fun(p:Nat×D×D)=>[(3,.int .i64 (dZ 0 (s.take p.1))),(4,p.2.1),(5,p.2.2),(6,.o (.bR s p.1))]) (fun p=>p.1<=s.length/\p.1<=6/\(s.take p.1).all bI=true/\(0<p.1->¬(1<s.length/\s.getD 0 0=48))) (fun p=>s.length-p.1) (0,.dead,.dead) (by simp only[go_sem];rfl) ⟨Nat.zero_le _,Nat.zero_le _,rfl,fun h=>absurd h (by decide)⟩ rfl ?_;rintro⟨i,d4,d5⟩ ⟨hi,h6,ha,hz⟩;simp only at hi h6 ha hz;simp only[go_sem];refine⟨fun h=>?_,fun h=>⟨?_,?_⟩⟩
 ·have hw1:IntKind.i64.wrap (10*(dZ 0 (s.take i):Int))=10*(dZ 0 (s.take i):Int):=by
   have hv:=vG ha 0;have hp:=rE (k:=(s.take i).length) (by rw[List.length_take];omega);exact wrap_small (by omega) (by omega)
  rw[hw1];refine⟨by simp,by simp,fun h=>⟨h,fun h2=>by rw[h];simpa using h2⟩,fun h=>⟨h,fun h2=>by rw[h,h2];rfl⟩,by simp +contextual,fun h1=>?_,fun h1=>?_⟩
  ·rw[show bA 6 s=none from ?_];rfl
   rcases zC h with⟨hd,he⟩ | ⟨hd,he⟩
   ·rw[he] at h1
    simp only[bI,Bool.and_eq_true,decide_eq_true_eq] at hd;simp only[Bool.or_eq_true,Bool.and_eq_true,decide_eq_true_eq,beq_iff_eq] at h1;refine F4 (.inr ?_);rcases h1 with((h1 | h1) | h1) | ⟨⟨h1,h2⟩,h3⟩
    ·omega
    ·omega
    ·exact .inl (by omega)
    ·refine .inr ⟨by omega,UInt8.toNat_inj.1 ?_⟩
     have:i=0:=by omega
     subst this;show _=48;omega
   ·exact F3 h hd
  ·rcases zC h with⟨hd,he⟩ | ⟨hd,he⟩
   ·rw[he] at h1|-
    have hd2:=hd;simp only[bI,Bool.and_eq_true,decide_eq_true_eq] at hd2;simp only[Bool.or_eq_false_iff,Bool.and_eq_false_iff,decide_eq_false_iff_not,beq_eq_false_iff_ne] at h1;refine⟨(i+1,.int .i64 i,.int .i32 (s.getD i 0).toNat),⟨h,by show i+1<=6;omega,CS h ha hd,fun _ hh=>?_⟩,by show s.length-(i+1)<_;omega,?_⟩
    ·by_cases h0:i=0
     ·subst h0
      rw[hh.2] at h1;have:(48:UInt8).toNat=48:=rfl;omega
     ·exact hz (by omega) hh
    ·have hv:=vG ha 0
     have hp:=rE (k:=(s.take i).length) (by rw[List.length_take];omega);show _=[_,_,_,D.int .i64 (dZ 0 (s.take (i+1)):Nat),_,_,_,_];rw[Nk hd2,Aj h,vH,wrap_small (n:=(((s.getD i 0).toNat-48:Nat):Int)) (by omega) (by omega),wrap_small (by omega) (by omega)];rfl
   ·simp only[Bool.or_eq_false_iff,decide_eq_false_iff_not] at h1
    omega
 ·rintro rfl;rfl
 ·intro h0
  rw[List.take_of_length_le h] at ha|-
  have h0:s≠[]:=by simpa using h0
  rw[yd h0 (by omega) (hz (by have:=List.length_pos_iff.2 h0;omega)) ha];rfl
end Go.D3
