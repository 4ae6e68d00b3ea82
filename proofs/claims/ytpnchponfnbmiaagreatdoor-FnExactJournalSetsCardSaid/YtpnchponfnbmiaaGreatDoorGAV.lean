/- CONTRACTS: schemas that are read: the program's ParseSchema. -/
import Derived.Test.YtpnchponfnbmiaaGreatDoorGAT
import Derived.Test.YtpnchponfnbmiaaGreatDoorGAU
import Derived.Laws.RangeAny
import Derived.Lib.ParseIntBCases
import Derived.Lib.ItoaMem
import Derived.Test.YtpnchponfnbmiaaGreatDoorGAA
import Derived.Lib.RuneCount
namespace Go.D3
open Go Proofs
set_option maxHeartbeats 4000000
set_option maxRecDepth 100000
def bE(b:UInt8):Bool:=decide (48<=b.toNat)&&decide (b.toNat<=57)
def dS(n:Nat)(s:List UInt8):Nat:=s.foldl (fun n b=>10*n+(b.toNat-48)) n
def bz(most:Nat)(s:List UInt8):Option Nat:=if(!s.isEmpty&&decide (s.length<=most)&&!(decide (1<s.length)&&s.getD 0 0 == 48)&&s.all bE)=true then some (dS 0 s) else none
theorem w9{b:UInt8}{s:List UInt8}{n:Nat}:dS n (s++[b])=10*dS n s+(b.toNat-48):=by unfold dS;rw[List.foldl_append,List.foldl_cons,List.foldl_nil]
theorem uo{b:UInt8}{s:List UInt8}{n:Nat}:dS n (b::s)=dS (10*n+(b.toNat-48)) s:=by unfold dS;rw[List.foldl_cons]
theorem w8{s:List UInt8}(h:s.all bE=true)(n:Nat):dS n s<(n+1)*10 ^ s.length:=by
 induction s generalizing n with
 | nil=>rw[List.length_nil,Nat.pow_zero];exact Nat.lt_of_lt_of_eq (Nat.lt_succ_self n) (Nat.mul_one _).symm
 | cons b s ih =>
  simp only[List.all_cons,Bool.and_eq_true,bE,decide_eq_true_eq] at h;have:=ih h.2 (10*n+(b.toNat-48));rw[uo,List.length_cons,Nat.pow_succ,Nat.mul_comm (10 ^ s.length),<-Nat.mul_assoc];exact Nat.lt_of_lt_of_le this (Nat.mul_le_mul_right _ (by omega))
theorem BD{s:List UInt8}{i:Nat}(h:i<s.length):s.take (i+1)=s.take i++[s.getD i 0]:=by rw[aN h,List.take_succ_eq_append_getElem h]
theorem Ei{s:List UInt8}{i:Nat}(h:i<s.length)(ha:(s.take i).all bE=true)(hb:bE (s.getD i 0)=true):(s.take (i+1)).all bE=true:=by
 rw[BD h,List.all_append,ha];simpa using hb
theorem HZ{most:Nat}{s:List UInt8}{i:Nat}(h:i<s.length)(hb:bE (s.getD i 0)=false):bz most s=none:=by
 unfold bz;rw[if_neg];intro hh;simp only[Bool.and_eq_true] at hh;have:=List.all_eq_true.1 hh.2 _ (List.getElem_mem h);rw[aN h] at hb;rw[hb] at this;cases this
theorem zB{most:Nat}{s:List UInt8}(h0:s≠[])(h1:s.length<=most)(h2:¬(1<s.length/\s.getD 0 0=48))(h3:s.all bE=true):bz most s=some (dS 0 s):=by
 unfold bz;rw[if_pos];rw[h3];simp only[Bool.and_true,Bool.and_eq_true,Bool.not_eq_true',decide_eq_true_eq,Bool.and_eq_false_iff,decide_eq_false_iff_not,beq_eq_false_iff_ne];exact⟨⟨by cases s<;>simp_all,h1⟩,by by_cases h : 1<s.length<;>simp_all⟩
theorem H0{most:Nat}{s:List UInt8}(h:s=[]\/most<s.length\/(1<s.length/\s.getD 0 0=48)):bz most s=none:=by
 unfold bz;rw[if_neg];intro hh;simp only[Bool.and_eq_true,Bool.not_eq_true',decide_eq_true_eq,Bool.and_eq_false_iff,decide_eq_false_iff_not,beq_eq_false_iff_ne] at hh;rcases h with rfl | h | ⟨h,h'⟩
 ·simp at hh
 ·omega
 ·rcases hh.1.2 with h2 | h2
  ·exact h2 h
  ·exact h2 h'
def lP:Option Nat->D
 | some n=>.int .i64 n
 | none=>.int .i64 (-1)
theorem tw{k:Nat}(h:k<=9) : 10 ^ k<=1000000000:=Nat.pow_le_pow_right (n:=10) (by omega) h
theorem Pj{b:UInt8}(h:bE b=true):IntKind.u8.wrap ((b.toNat:Int)-48)=((b.toNat-48:Nat):Int):=by
 simp only[bE,Bool.and_eq_true,decide_eq_true_eq] at h;rw[iG ⟨by simp[IntKind.min,IntKind.signed];omega,by simp[IntKind.max,IntKind.signed,IntKind.bits];omega⟩];omega
def Dh:List Nat:=[0,2,3,4]
def LI:Sl:=ah Tryz.types Tryz.f125 Dh []
theorem U9:aC Tryz.prog Tryz.f125 Dh LI 1=true:=by decide +kernel
theorem rH(s:List UInt8):aw Tryz.prog 125 [.v (.str s)] (lP (bz 9 s)):=by
 refine aK Tryz.func125 U9 ?_;unfold LI ah Dh;simp only[go_sem];refine⟨fun h=>by simpa using h,fun h=>⟨h,by decide,by simp only[Bool.and_eq_true,decide_eq_true_eq] at h;omega⟩,fun h=>by simp at h|-;exact⟨h,fun h2=>⟨h,h2⟩⟩,(fun h=>by simp only[Bool.or_eq_false_iff,Bool.and_eq_true,Bool.not_eq_true'] at h|-;exact h),fun h=>?_,fun h=>?_⟩
 ·rw[H0];rfl
  simp only[Bool.or_eq_true,Bool.and_eq_true,decide_eq_true_eq,beq_iff_eq] at h;rcases h with(h | h) | ⟨h,h'⟩
  ·exact .inl (List.length_eq_zero_iff.1 (by omega))
  ·exact .inr (.inl (by omega))
  ·exact .inr (.inr ⟨by omega,UInt8.toNat_inj.1 (by show _=48;omega)⟩)
 ·simp only[Bool.or_eq_false_iff,beq_eq_false_iff_ne,decide_eq_false_iff_not,Bool.and_eq_false_iff] at h
  obtain⟨⟨h0,h9⟩,hz⟩:=h;refine aE [] (fun(i:Nat)=>[(2,.int .i64 (dS 0 (s.take i))),(3,.int .i64 i)]) (fun i=>i<=s.length/\(s.take i).all bE=true) (fun i=>s.length-i) 0 (by simp only[go_sem];rfl) ⟨Nat.zero_le _,rfl⟩ rfl ?_;rintro i ⟨hi,ha⟩;simp only[go_sem];refine⟨fun h=>⟨h,fun h1=>⟨h1,h⟩,fun h1=>by simpa using h1,fun h1=>?_,fun h1=>⟨h,i+1,⟨h,Ei h ha ?_⟩,by omega,?_⟩⟩,fun h=>?_⟩
  ·rw[HZ h];rfl
   simp only[Bool.or_eq_true,decide_eq_true_eq] at h1;simp only[bE,Bool.and_eq_false_iff,decide_eq_false_iff_not];omega
  ·simp only[Bool.or_eq_false_iff,decide_eq_false_iff_not] at h1
   simp only[bE,Bool.and_eq_true,decide_eq_true_eq];omega
  ·have hd:bE (s.getD i 0)=true:=by
    simp only[Bool.or_eq_false_iff,decide_eq_false_iff_not] at h1;simp only[bE,Bool.and_eq_true,decide_eq_true_eq];omega
   have hv:=w8 ha 0;have hp:=tw (k:=(s.take i).length) (by rw[List.length_take];omega);have hb:=(s.getD i 0).toNat_lt;rw[Pj hd,BD h,w9,wrap_small (n:=(dS 0 (s.take i):Int)*10) (by omega) (by omega),wrap_small (n:=(((s.getD i 0).toNat-48:Nat):Int)) (by omega) (by omega),wrap_small (by omega) (by omega),wrap_small (n:=(i:Int)+1) (by omega) (by omega)];congr 4
   all_goals omega
  ·rw[List.take_of_length_le (by omega)] at ha|-
   rw[zB (by rintro rfl;simp at h0) (by omega) (fun hh=>by rw[hh.2] at hz;exact hz.elim (fun hz=>by omega) fun hz=>hz (by decide)) ha];rfl
end Go.D3
namespace Go.D3
open Go Proofs
set_option maxHeartbeats 4000000
set_option maxRecDepth 100000
theorem Ft{m:Nat}(h:m<10):bE (UInt8.ofNat (48+m))=true/\(UInt8.ofNat (48+m)).toNat-48=m:=by
 have:(UInt8.ofNat (48+m)).toNat=48+m:=by rw[UInt8.toNat_ofNat',Nat.mod_eq_of_lt (by omega)]
 unfold bE;rw[this];exact⟨by simp only[Bool.and_eq_true,decide_eq_true_eq];omega,by omega⟩
theorem Ia{b:UInt8}(h:bE b=true):UInt8.ofNat (48+(b.toNat-48))=b:=by
 simp only[bE,Bool.and_eq_true,decide_eq_true_eq] at h;rw[show 48+(b.toNat-48)=b.toNat by omega,UInt8.ofNat_toNat]
theorem Fo(n:Nat):(Lib.decDigits n).all bE=true/\dS 0 (Lib.decDigits n)=n/\Lib.decDigits n≠[]/\(0<n->(Lib.decDigits n).getD 0 0≠48):=by
 induction n using Nat.strongRecOn with
 | _ n ih =>
  by_cases h:n<10
  ·rw[Lib.decDigits_one h]
   obtain⟨h1,h2⟩:=Ft h;refine⟨by rw[List.all_cons,h1];rfl,by rw[uo,h2,Nat.mul_zero,Nat.zero_add];rfl,by simp,fun h0 hh=>?_⟩;have hh:UInt8.ofNat (48+n)=48:=hh;rw[hh] at h2;have:(48:UInt8).toNat-48=0:=by decide
   omega
  ·rw[yo h]
   obtain⟨h1,h2⟩:=Ft (show n % 10<10 by omega);obtain⟨i1,i2,i3,i4⟩:=ih (n / 10) (by omega);refine⟨by rw[List.all_append,i1,List.all_cons,h1];rfl,by rw[w9,i2,h2];omega,by simp,fun _=>?_⟩;have hl : 0<(Lib.decDigits (n / 10)).length:=List.length_pos_iff.2 i3;rw[List.getD_eq_getElem?_getD,List.getElem?_append_left hl,<-List.getD_eq_getElem?_getD];exact i4 (by omega)
theorem Fq{n most:Nat}(h:(Lib.decDigits n).length<=most):bz most (Lib.decDigits n)=some n:=by
 obtain⟨h1,h2,h3,h4⟩:=Fo n;rw[zB h3 h (fun hh=>?_) h1,h2];by_cases h0:n<10
 ·rw[Lib.decDigits_one h0] at hh;simp at hh
 ·exact h4 (by omega) hh.2
theorem vW{most n:Nat}{s:List UInt8}(h:bz most s=some n):s≠[]/\s.length<=most/\¬(1<s.length/\s.getD 0 0=48)/\s.all bE=true/\dS 0 s=n:=by
 unfold bz at h;split at h
 ·rename_i hh
  simp only[Bool.and_eq_true,Bool.not_eq_true',decide_eq_true_eq,Bool.and_eq_false_iff,decide_eq_false_iff_not,beq_eq_false_iff_ne] at hh;obtain⟨⟨⟨a1,a2⟩,a3⟩,a4⟩:=hh;exact⟨by rintro rfl;simp at a1,a2,fun h=>a3.elim (fun a=>a h.1) fun a=>a h.2,a4,by injection h⟩
 ·cases h
theorem aa4{s:List UInt8}{n:Nat}:n<=dS n s:=by
 induction s generalizing n with
 | nil=>exact Nat.le_refl _
 | cons b s ih=>rw[uo];exact Nat.le_trans (by omega) ih
theorem Ph:∀(k:Nat)(s:List UInt8),s.length=k->s≠[]->¬(1<s.length/\s.getD 0 0=48)->s.all bE=true->Lib.decDigits (dS 0 s)=s:=by
 intro k;induction k with
 | zero=>intro s h h0;exact absurd (List.length_eq_zero_iff.1 h) h0
 | succ k ih =>
  intro s h h0 hz ha;obtain⟨t,b,rfl⟩:∃t b,s=t++[b]:=⟨s.dropLast,s.getLast h0,(List.dropLast_concat_getLast h0).symm⟩;rw[List.all_append,Bool.and_eq_true] at ha;have hb:bE b=true:=by simpa using ha.2
  have hb2:=hb;simp only[bE,Bool.and_eq_true,decide_eq_true_eq] at hb2;rw[w9];rw[List.length_append,List.length_cons,List.length_nil] at h hz;cases t with
  | nil=>rw[show dS 0 []=0 from rfl,Lib.decDigits_one (by omega),Nat.mul_zero,Nat.zero_add,Ia hb];rfl
  | cons c t =>
   have hc:c≠48:=fun hc=>hz ⟨by simp,by subst hc;rfl⟩
   have hcd:bE c=true:=by have:=ha.1;simp only[List.all_cons,Bool.and_eq_true] at this;exact this.1
   simp only[bE,Bool.and_eq_true,decide_eq_true_eq] at hcd;have hc2:c.toNat≠48:=fun hh=>hc (UInt8.toNat_inj.1 hh)
   have hv : 1<=dS 0 (c::t):=by rw[uo];exact Nat.le_trans (by omega) aa4
   rw[yo (by omega),show(10*dS 0 (c::t)+(b.toNat-48)) / 10=dS 0 (c::t) by omega,show(10*dS 0 (c::t)+(b.toNat-48)) % 10=b.toNat-48 by omega,Ia hb,
    ih (c::t) (by omega) (by simp) (fun hh=>hc hh.2) ha.1]
theorem Tg{most n:Nat}{s:List UInt8}(h:bz most s=some n):Lib.decDigits n=s:=by
 obtain⟨h1,h2,h3,h4,h5⟩:=vW h;rw[<-h5];exact Ph _ s rfl h1 h3 h4
theorem Th{n:Nat}{s:List UInt8}(h:bz 9 s=some n):n<1000000000:=by
 obtain⟨h1,h2,h3,h4,h5⟩:=vW h;have:=w8 h4 0;have:=tw h2;omega
theorem V8{s:List UInt8}(h:s.all bE=true):∀acc,(acc+1)*10 ^ s.length<=1000000000->Lib.parseUint10 acc s=.ok (dS acc s):=by
 induction s with
 | nil=>intro acc _;rfl
 | cons b s ih =>
  intro acc hacc;simp only[List.all_cons,Bool.and_eq_true,bE,decide_eq_true_eq] at h;rw[List.length_cons,Nat.pow_succ,Nat.mul_comm (10 ^ s.length),<-Nat.mul_assoc] at hacc;have hp : 1<=10 ^ s.length:=Nat.one_le_pow _ _ (by decide);have h1:(acc+1)*10<=(acc+1)*10*10 ^ s.length:=Nat.le_mul_of_pos_right _ hp;have:=ih h.2 (acc*10+(b.toNat-48)) (Nat.le_trans (Nat.mul_le_mul_right _ (by omega)) hacc);rw[Lib.parseUint10,if_pos h.1,if_neg (by omega),if_neg (by omega),this,uo,Nat.mul_comm acc]
def mG(s:List UInt8):Int:=match Lib.parseIntB 64 s with
 | .ok v=>v
 | .range=>Lib.intSat 64 s
 | _=>0
theorem Af{n:Nat}{s:List UInt8}(h:bz 9 s=some n):Lib.parseIntB 64 s=.ok (n:Int):=by
 obtain⟨h1,h2,h3,h4,h5⟩:=vW h;cases s with
 | nil=>exact absurd rfl h1
 | cons c r =>
  have hc:bE c=true:=by simp only[List.all_cons,Bool.and_eq_true] at h4;exact h4.1
  simp only[bE,Bool.and_eq_true,decide_eq_true_eq] at hc;rw[Lib.parseIntB_plain 64 c r (by omega) (by omega),Lib.parseUintB_64];unfold Lib.parseMag;rw[if_neg (by simp),V8 h4 0 (by rw[Nat.zero_add,Nat.one_mul];exact tw h2),h5];have:=Th h;show(if 2 ^ (64-1)<=n then _ else _)=_;rw[if_neg (by omega)]
theorem Wk{n:Nat}{s:List UInt8}(h:bz 9 s=some n):mG s=n:=by unfold mG;rw[Af h]
theorem Q7{s:List UInt8}{v:Int}(hp:Lib.parseIntB 64 s=.ok v):(decide (s.length<=9)&&(Lib.itoa v == s)&&decide (0<=v))=(bz 9 s).isSome:=by
 cases h:bz 9 s with
 | some n =>
  have:=Af h;rw[hp] at this;injection this with this
  subst this;have h2:=(vW h).2.1;rw[Lib.itoa_nonneg,Tg h];simp[h2]
 | none =>
  show _=false;rw[Bool.eq_false_iff];intro hh;simp only[Bool.and_eq_true,decide_eq_true_eq,beq_iff_eq] at hh;obtain⟨⟨h1,h2⟩,h3⟩:=hh;obtain⟨n,rfl⟩:∃n:Nat,v=n:=⟨v.toNat,by omega⟩;rw[Lib.itoa_nonneg] at h2;rw[<-h2] at h h1;rw[Fq h1] at h;cases h
theorem Hi{s:List UInt8}(hp:∀v,Lib.parseIntB 64 s≠.ok v):(bz 9 s).isSome=false:=by
 cases h:bz 9 s with
 | some n=>exact absurd (Af h) (hp n)
 | none=>rfl
def Cv:List Nat:=[0,2,3,4,5]
def KU:Sl:=ah Tryz.types Tryz.f203 Cv []
theorem Um:aC Tryz.prog Tryz.f203 Cv KU 1=true:=by decide +kernel
theorem X6(s:List UInt8)(hs:s.length<=281474976710656):aw Tryz.prog 203 [.v (.str s)] (.al [.int .i64 (mG s),.bool (bz 9 s).isSome]):=by
 refine aK Tryz.func203 Um ?_;unfold KU ah Cv;simp only[go_sem];refine an (Yw hs) rfl (.inr trivial) ?_;unfold Ai;cases hp:Lib.parseIntB 64 s with
 | ok v =>
  have hv:mG s=v:=by unfold mG;rw[hp]
  rw[<-Q7 hp,hv];simp only[go_sem];refine bu (fun _=>rG) rfl (fun h=>h) (.inl rfl) ?_;simp only[go_sem];rw[show decide ((s.length:Int)<=9)=decide (s.length<=9) from decide_eq_decide.2 (by omega)]
 | range =>
  have hv:mG s=Lib.intSat 64 s:=by unfold mG;rw[hp]
  rw[Hi (by rw[hp];intro v h;cases h),hv];simp only[go_sem];refine bu (res:=.str []) (fun h=>by cases h) rfl (fun h=>by cases h) (.inl rfl) ?_;simp only[go_sem]
 | _ =>
  have hv:mG s=0:=by unfold mG;rw[hp]
  rw[Hi (by rw[hp];intro v h;cases h),hv];simp only[go_sem];refine bu (res:=.str []) (fun h=>by cases h) rfl (fun h=>by cases h) (.inl rfl) ?_;simp only[go_sem]
theorem P3{e:Nat}(h : 48<=e/\e<=57):IntKind.i32.wrap ((e:Int)-48)=((e-48:Nat):Int):=by
 rw[iG ⟨by simp[IntKind.min,IntKind.signed,IntKind.bits];omega,by simp[IntKind.max,IntKind.signed,IntKind.bits];omega⟩];omega
theorem PM:gl 1=some (.ptr [eS]):=rfl
attribute [go_sem] PM Option.getD_some
theorem A1{s:List UInt8}{i:Nat}(h:i<s.length):(bE (s.getD i 0)=true/\cH s i=((s.getD i 0).toNat,1))\/(bE (s.getD i 0)=false/\((cH s i).1<48\/57<(cH s i).1)):=by
 have hsz:i<(⟨s.toArray⟩:ByteArray).size:=by show i<s.toArray.size;simpa using h
 have hg:(⟨s.toArray⟩:ByteArray)[i]'hsz=s.getD i 0:=by rw[aN h];rfl
 unfold cH bE;by_cases ha:(s.getD i 0).toNat<128
 ·rw[decode_ascii _ _ hsz (by rw[hg];exact ha),hg]
  by_cases hd : 48<=(s.getD i 0).toNat/\(s.getD i 0).toNat<=57
  ·exact .inl ⟨by simp only[Bool.and_eq_true,decide_eq_true_eq];exact hd,rfl⟩
  ·exact .inr ⟨by simp only[Bool.and_eq_false_iff,decide_eq_false_iff_not];omega,by show _<_\/_<_;omega⟩
 ·have:=(decode_high ⟨s.toArray⟩ i hsz (by rw[hg];omega)).1
  exact .inr ⟨by simp only[Bool.and_eq_false_iff,decide_eq_false_iff_not];omega,.inr (by omega)⟩
def j6:Option Nat->D
 | some n=>.al [.int .i64 n,.aY]
 | none=>.al [.int .i64 0,eS]
def Cj:List Nat:=[0,2,3,4,5,6,8,9]
def KI:Sl:=ah Tryz.types Tryz.f223 Cj []
theorem T9:aC Tryz.prog Tryz.f223 Cj KI 1=true:=by decide +kernel
theorem tG(s:List UInt8):aw Tryz.prog 223 [.v (.str s)] (j6 (bz 6 s)):=by
 refine eZ fun hw=>?_
 simp only[dp,D.dG] at hw;have hl:s.length<=maxLen:=hw.1;refine aK Tryz.func223 T9 ?_;unfold KI ah Cj;simp only[go_sem];refine aE [7] (fun(p:Nat×D×D)=>[(3,.int .i64 (dS 0 (s.take p.1))),(4,p.2.1),(5,p.2.2),(6,.o (.bL s p.1))]) (fun p=>p.1<=s.length/\p.1<=6/\(s.take p.1).all bE=true/\(0<p.1->¬(1<s.length/\s.getD 0 0=48))) (fun p=>s.length-p.1) (0,.dead,.dead) (by simp only[go_sem];rfl) ⟨Nat.zero_le _,Nat.zero_le _,rfl,fun h=>absurd h (by decide)⟩ rfl ?_;rintro⟨i,d4,d5⟩ ⟨hi,h6,ha,hz⟩;simp only at hi h6 ha hz;simp only[go_sem];refine⟨fun h=>?_,fun h=>⟨?_,?_⟩⟩
 ·have hw1:IntKind.i64.wrap (10*(dS 0 (s.take i):Int))=10*(dS 0 (s.take i):Int):=by
   have hv:=w8 ha 0;have hp:=tw (k:=(s.take i).length) (by rw[List.length_take];omega);exact wrap_small (by omega) (by omega)
  rw[hw1];refine⟨by simp,by simp,fun h=>⟨h,fun h2=>by rw[h];simpa using h2⟩,fun h=>⟨h,fun h2=>by rw[h,h2];rfl⟩,by simp +contextual,fun h1=>?_,fun h1=>?_⟩
  ·rw[show bz 6 s=none from ?_];rfl
   rcases A1 h with⟨hd,he⟩ | ⟨hd,he⟩
   ·rw[he] at h1
    simp only[bE,Bool.and_eq_true,decide_eq_true_eq] at hd;simp only[Bool.or_eq_true,Bool.and_eq_true,decide_eq_true_eq,beq_iff_eq] at h1;refine H0 (.inr ?_);rcases h1 with((h1 | h1) | h1) | ⟨⟨h1,h2⟩,h3⟩
    ·omega
    ·omega
    ·exact .inl (by omega)
    ·refine .inr ⟨by omega,UInt8.toNat_inj.1 ?_⟩
     have:i=0:=by omega
     subst this;show _=48;omega
   ·exact HZ h hd
  ·rcases A1 h with⟨hd,he⟩ | ⟨hd,he⟩
   ·rw[he] at h1|-
    have hd2:=hd;simp only[bE,Bool.and_eq_true,decide_eq_true_eq] at hd2;simp only[Bool.or_eq_false_iff,Bool.and_eq_false_iff,decide_eq_false_iff_not,beq_eq_false_iff_ne] at h1;refine⟨(i+1,.int .i64 i,.int .i32 (s.getD i 0).toNat),⟨h,by show i+1<=6;omega,Ei h ha hd,fun _ hh=>?_⟩,by show s.length-(i+1)<_;omega,?_⟩
    ·by_cases h0:i=0
     ·subst h0
      rw[hh.2] at h1;have:(48:UInt8).toNat=48:=rfl;omega
     ·exact hz (by omega) hh
    ·have hv:=w8 ha 0
     have hp:=tw (k:=(s.take i).length) (by rw[List.length_take];omega);show _=[_,_,_,D.int .i64 (dS 0 (s.take (i+1)):Nat),_,_,_,_];rw[P3 hd2,BD h,w9,wrap_small (n:=(((s.getD i 0).toNat-48:Nat):Int)) (by omega) (by omega),wrap_small (by omega) (by omega)];rfl
   ·simp only[Bool.or_eq_false_iff,decide_eq_false_iff_not] at h1
    omega
 ·rintro rfl;rfl
 ·intro h0
  rw[List.take_of_length_le h] at ha|-
  have h0:s≠[]:=by simpa using h0
  rw[zB h0 (by omega) (hz (by have:=List.length_pos_iff.2 h0;omega)) ha];rfl
end Go.D3
namespace Go.D3
open Go Proofs
set_option maxHeartbeats 4000000
set_option maxRecDepth 100000
set_option maxHeartbeats 1000000
theorem Oh{s:List UInt8}:sv s=bytes (s.map fun b=>(b.toNat:Int)):=by unfold sv bytes ae;rw[List.map_map];rfl
theorem wrap_u8{n:Int}(h : 0<=n)(h1:n<256):IntKind.u8.wrap n=n:=by
 rw[iG ⟨by simp only[IntKind.min,IntKind.signed];simpa using h,by simp only[IntKind.max,IntKind.signed,IntKind.bits];simp;omega⟩]
attribute [go_sem] Oh
theorem iS{n:Int}(h : 0<=n)(h1:n<=4611686018427387900):(Lib.itoa n).length<=20:=by
 obtain⟨m,rfl⟩:∃m:Nat,n=m:=⟨n.toNat,by omega⟩;rw[Lib.itoa_nonneg];exact Fp m (by omega)
theorem tF{n:Int}(h : 0<=n)(h1:n<=4611686018427387900):aw Tryz.prog 95 [.v (.int .i64 n)] (.str (Lib.itoa n)):=by
 obtain⟨m,rfl⟩:∃m:Nat,n=m:=⟨n.toNat,by omega⟩;rw[Lib.itoa_nonneg];exact YI m (by omega)
def fN(e:Int):UInt8:=UInt8.ofNat (97+e.toNat)
def U.aT(p:U):List UInt8:=64::(Lib.itoa p.st++p.ed.map fN)
structure dz(p:U):Prop where
 st : 0<=p.st/\p.st<=8
 len:p.ed.length<=6
 ed:∀i,i<p.ed.length->0<=p.ed.getD i 0/\p.ed.getD i 0<8
theorem dz.rP{p:U}(h:dz p):p.aT.length<=40:=by
 have:=iS h.st.1 (by have:=h.st;omega);have:=h.len;unfold U.aT;simp only[List.length_cons,List.length_append,List.length_map];omega
def BT:List Nat:=[0,2,1,3,5,12,13,14]
def Kg:Sl:=ah Tryz.types Tryz.f118 BT []
theorem TJ:aC Tryz.prog Tryz.f118 BT Kg 1=true:=by decide +kernel
theorem Jx(p:U)(h:dz p):aw Tryz.prog 118 [.v (U.d p)] (.str p.aT):=by
 have hlen:=h.len;have hil:=iS h.st.1 (by have:=h.st;omega);refine aK Tryz.func118 TJ ?_;unfold Kg ah BT;simp only[go_sem];refine an rG rfl (.inl rfl) ?_;simp only[go_sem];refine⟨by simp only[maxLen];omega,by omega,?_⟩;refine aE [4] (fun(i:Nat)=>[(3,.o (bytes (((64::Lib.itoa p.st).map fun b=>(b.toNat:Int))++(p.ed.take i).map fun e=>97+e))),(7,.int .i64 i)]) (fun i=>i<=p.ed.length) (fun i=>p.ed.length-i) 0 (by simp only[go_sem];rfl) (Nat.zero_le _) (by simp[fW,eP]) ?_;intro i hi;simp only[go_sem];refine⟨fun h1=>⟨h1,?_⟩,fun h1=>?_⟩
 ·have he:=h.ed i h1
  have hw:IntKind.u8.wrap (IntKind.i64.wrap (97+p.ed.getD i 0))=97+p.ed.getD i 0:=by
   rw[wrap_small (by omega) (by omega),wrap_u8 (by omega) (by omega)]
  rw[hw];refine⟨by simp;omega,i+1,h1,by omega,?_⟩;rw[wrap_small (by omega) (by omega),bN h1 0,List.map_append,<-List.append_assoc];rfl
 ·rw[List.take_of_length_le (by omega),List.map_append,List.map_map,List.map_map]
  have e1:(Lib.itoa p.st).map (byteOf ∘ fun b=>(b.toNat:Int))=Lib.itoa p.st:=by
   conv=>rhs;rw[<-List.map_id (Lib.itoa p.st)]
   refine List.map_congr_left fun b _=>?_
   show UInt8.ofNat ((b.toNat:Int)).toNat=b;rw[Int.toNat_natCast,UInt8.ofNat_toNat]
  have e2:p.ed.map (byteOf ∘ fun e=>97+e)=p.ed.map fN:=List.map_congr_left fun e hm=>by
   obtain⟨j,hj,rfl⟩:=List.getElem_of_mem hm;have:=h.ed j hj;rw[aN hj] at this;show UInt8.ofNat (97+p.ed[j]).toNat=UInt8.ofNat (97+p.ed[j].toNat);congr 1;omega
  rw[e1,e2];rfl
theorem aaa{e:Int}(h : 0<=e/\e<8):(([97,98,99,100,101,102,103,104]:List UInt8).take (e+1).toNat).drop e.toNat=[fN e]:=by
 obtain⟨n,rfl⟩:∃n:Nat,e=n:=⟨e.toNat,by omega⟩;rw[show((n:Int)+1).toNat=n+1 by omega,Int.toNat_natCast];unfold fN;rw[Int.toNat_natCast];have:n<8:=by omega
 match n,this with
 | 0,_ | 1,_ | 2,_ | 3,_ | 4,_ | 5,_ | 6,_ | 7,_=>rfl
 | n+8,h=>omega
def DA:List Nat:=[0,2,1,3,4]
def L2:Sl:=ah Tryz.types Tryz.f196 DA []
theorem Vs:aC Tryz.prog Tryz.f196 DA L2 1=true:=by decide +kernel
theorem JS(p:U)(h:dz p):aw Tryz.prog 196 [.v (U.d p)] (.str p.aT):=by
 have hlen:=h.len;have hil:=iS h.st.1 (by have:=h.st;omega);refine aK Tryz.func196 Vs ?_;unfold L2 ah DA;simp only[go_sem];refine an (tF h.st.1 (by have:=h.st;omega)) rfl (.inl rfl) ?_;simp only[go_sem];refine⟨by simp only[maxLen];omega,?_⟩;refine aE [] (fun(i:Nat)=>[(3,.str (64::(Lib.itoa p.st++(p.ed.take i).map fN))),(4,.int .i64 i)]) (fun i=>i<=p.ed.length) (fun i=>p.ed.length-i) 0 (by simp only[go_sem];rfl) (Nat.zero_le _) (by simp[fW,eP]) ?_;intro i hi;simp only[go_sem];refine⟨fun h1=>?_,fun h1=>by rw[List.take_of_length_le (by omega)];rfl⟩;have he:=h.ed i h1;rw[wrap_small (n:=p.ed.getD i 0+1) (by omega) (by omega)];rw[aaa he];refine⟨h1,h1,by omega,by simp only[maxLen,List.length_append,List.length_map,List.length_take,List.length_cons,List.length_nil];omega,i+1,h1,by omega,?_⟩;rw[wrap_small (by omega) (by omega),bN h1 0,List.map_append,List.append_assoc];rfl
end Go.D3
namespace Go.D3
open Go Proofs
set_option maxHeartbeats 4000000
set_option maxRecDepth 100000
set_option maxHeartbeats 1000000
theorem Bs{s p:List UInt8}(hp:p≠[]):jj s p=aS p 0 s:=by
 unfold jj;rw[Lib.splitB_data];show Lib.splitK p 0 (Lib.count s p) s=_;exact aar hp s.length (Nat.le_refl _)
theorem AT{s p:List UInt8}(hp:p≠[])(hs:s.length<=4294967000):aw Tryz.prog 202 [.v (.str s),.v (.str p)] (dR (aS p 0 s)):=by
 have hp1 : 1<=p.length:=List.length_pos_iff.2 hp;have hl:(jj s p).length<=s.length+1:=by rw[Bs hp];exact oC
 rw[<-Bs hp];refine Y9 (by omega) hp1 (fun x hx=>by rw[Bs hp] at hx;have:=iF hx;simp only[maxLen];omega) ?_ (by simp only[maxLen];omega);unfold jj;rw[List.length_map];exact Lib.splitB_all ⟨p.toArray⟩ (by show 1<=p.toArray.size;simpa using hp1) 0 _ _ rfl
def dh(s:List UInt8):List (List UInt8):=if s=[45] then[] else aS [32] 0 s
def CM:List Nat:=[0,2]
def Lb:Sl:=ah Tryz.types Tryz.f224 CM []
theorem UD:aC Tryz.prog Tryz.f224 CM Lb 1=true:=by decide +kernel
theorem JG(s:List UInt8)(hs:s.length<=4294967000):aw Tryz.prog 224 [.v (.str s)] (dR (dh s)):=by
 unfold dh;refine aK Tryz.func224 UD ?_;unfold Lb ah CM;simp only[go_sem];refine⟨fun h=>by rw[if_pos h],fun h=>an (AT (by decide) hs) rfl (.inl (kG _)) ?_⟩;simp only[go_sem];rw[if_neg (by simpa using h)]
def cZ(l:List (List UInt8)):List UInt8:=if l=[] then[45] else Lib.join l [32]
def CC:List Nat:=[0,2]
def K1:Sl:=ah Tryz.types Tryz.f120 CC []
theorem Ut:aC Tryz.prog Tryz.f120 CC K1 1=true:=by decide +kernel
theorem JF(l:List (List UInt8))(h1:l.length<=140737488355328)(h2:(Lib.join l [32]).length<=140737488355328):aw Tryz.prog 120 [.v (dR l)] (.str (cZ l)):=by
 unfold cZ;refine aK Tryz.func120 Ut ?_;unfold K1 ah CC;simp only[go_sem];refine⟨fun h=>by rw[if_pos (List.length_eq_zero_iff.1 (by omega))],fun h=>an (JH h1 h2) rfl (.inl rfl) ?_⟩;simp only[go_sem];rw[if_neg (by rintro rfl;simp at h)]
def aa.j7(s:aa)(i:Nat):List UInt8:=Lib.itoa (s.fr.getD i 0)++62::Lib.itoa (s.to.getD i 0)
def aa.lh(s:aa)(i:Nat):List UInt8:=(s.lf.getD i U.zero).aT++61::(s.rt.getD i U.zero).aT
def aa.du(s:aa)(n:Nat):List (List UInt8):=(List.range n).map s.j7
def aa.cW(s:aa)(n:Nat):List (List UInt8):=(List.range n).map s.lh
def aa.aT(s:aa):List UInt8:=Lib.join [Lib.itoa s.nd,cZ (s.du s.fr.length),cZ (s.cW s.lf.length)] [32,124,32]
structure fw(s:aa):Prop where
 nd : 0<=s.nd/\s.nd<=8
 f8:s.fr.length<=8
 to:s.to.length=s.fr.length
 ed:∀i,i<s.fr.length->(0<=s.fr.getD i 0/\s.fr.getD i 0<8)/\0<=s.to.getD i 0/\s.to.getD i 0<8
 l8:s.lf.length<=8
 rt:s.rt.length=s.lf.length
 eq:∀i,i<s.lf.length->dz (s.lf.getD i U.zero)/\dz (s.rt.getD i U.zero)
theorem Ga{fr to:List Int}:∀{l:List Int}{x y:Int},bw fr to x l=some y->∀i,i<l.length->0<=l.getD i 0/\l.getD i 0<fr.length
 | [],_,_,_,i,hi=>by simp at hi
 | e::r,x,y,h,i,hi=>by
  rw[bw] at h;split at h
  ·rename_i hc
   simp only[Bool.and_eq_true,aR,decide_eq_true_eq] at hc;cases i with
   | zero=>exact⟨hc.1.1,by show e<_;omega⟩
   | succ i=>exact Ga h i (by simpa using hi)
  ·cases h
theorem c6{s:aa}(h:s.ok=true):fw s:=by
 obtain⟨h1,h2,h3⟩:=fj h;have hs:=gw h1;have h8:=hs.n8
 have hp:∀{p:U}{y:Int},s.aO p=some y->dz p:=fun {p y} hy=>by
  obtain⟨a1,a2,a3⟩:=qM hy;exact⟨by omega,a2,fun i hi=>by have:=Ga a3 i hi;have:=hs.f8;omega⟩
 refine⟨⟨hs.n0,hs.n8⟩,hs.f8,hs.to,fun i hi=>?_,h2,h3,fun i hi=>?_⟩
 ·have:=eM hs.fr hi
  have:=eM hs.wZ (show i<s.to.length by rw[hs.to];exact hi);omega
 ·obtain⟨y,b1,b2,_⟩:=ok_eq h hi
  exact⟨hp b1,hp b2⟩
section
variable{s:aa}(h:fw s)
include h
theorem fw.Ps{i:Nat}(hi:i<s.fr.length):(s.j7 i).length<=41:=by
 have:=h.ed i hi;have:=iS (n:=s.fr.getD i 0) (by omega) (by omega);have:=iS (n:=s.to.getD i 0) (by omega) (by omega);unfold aa.j7;simp only[List.length_append,List.length_cons];omega
theorem fw.eql{i:Nat}(hi:i<s.lf.length):(s.lh i).length<=81:=by
 have:=(h.eq i hi).1.rP;have:=(h.eq i hi).2.rP;unfold aa.lh;simp only[List.length_append,List.length_cons];omega
end
theorem join_le{l:List (List UInt8)}{sep:List UInt8}{b:Nat}(h:∀x∈l,x.length<=b):(Lib.join l sep).length<=l.length*(b+sep.length):=by
 cases l with
 | nil=>simp[Lib.join_nil]
 | cons x r =>
  rw[Lib.join_cons]
  have key:∀r:List (List UInt8),(∀x∈r,x.length<=b)->(Lib.joinTail sep r).length<=r.length*(b+sep.length):=by
   intro r;induction r with
   | nil=>intro _;simp[Lib.joinTail]
   | cons y r ih =>
    intro hy;have h1:=ih fun z hz=>hy z (List.mem_cons_of_mem _ hz)
    have h2:=hy y List.mem_cons_self;have e:Lib.joinTail sep (y::r)=(sep++y)++Lib.joinTail sep r:=rfl;rw[e,List.length_append,List.length_append,List.length_cons,Nat.succ_mul];omega
  have h1:=key r fun z hz=>h z (List.mem_cons_of_mem _ hz)
  have h2:=h x List.mem_cons_self;rw[List.length_append,List.length_cons,Nat.succ_mul];omega
theorem wj{l:List (List UInt8)}{b:Nat}(h:∀x∈l,x.length<=b):(cZ l).length<=l.length*(b+1)+1:=by
 unfold cZ;split
 ·simp
 ·exact Nat.le_trans (join_le h) (by simp)
theorem FD{s:aa}{i:Nat}:s.du (i+1)=s.du i++[s.j7 i]:=by unfold aa.du;rw[List.range_succ,List.map_append];rfl
theorem FN{s:aa}{i:Nat}:s.cW (i+1)=s.cW i++[s.lh i]:=by unfold aa.cW;rw[List.range_succ,List.map_append];rfl
theorem sC{s:aa}(h:fw s){n:Nat}(hn:n<=s.fr.length):∀x∈s.du n,x.length<=41:=fun x hx=>by
 obtain⟨i,hi,rfl⟩:=List.mem_map.1 hx;exact h.Ps (by have:=List.mem_range.1 hi;omega)
theorem sG{s:aa}(h:fw s){n:Nat}(hn:n<=s.lf.length):∀x∈s.cW n,x.length<=81:=fun x hx=>by
 obtain⟨i,hi,rfl⟩:=List.mem_map.1 hx;exact h.eql (by have:=List.mem_range.1 hi;omega)
theorem ir{s:aa}{n:Nat}:(s.du n).length=n:=by simp[aa.du]
theorem kf{s:aa}{n:Nat}:(s.cW n).length=n:=by simp[aa.cW]
theorem aa0{s:aa}(h:fw s):s.aT.length<=3400:=by
 have h0:=iS h.nd.1 (by have:=h.nd;omega);have h1:=wj (sC h (Nat.le_refl _));have h2:=wj (sG h (Nat.le_refl _));rw[ir] at h1;rw[kf] at h2;have:=h.f8;have:=h.l8;unfold aa.aT;rw[pt,pt,Lib.join_one];simp only[List.length_append,List.length_cons,List.length_nil];omega
def B8:List Nat:=[0,2,3,4,5,6,13,14,43,44]
def Kw:Sl:=ah Tryz.types Tryz.f90 B8 []
theorem TY:aC Tryz.prog Tryz.f90 B8 Kw 1=true:=by decide +kernel
theorem XO(s:aa)(h:fw s):aw Tryz.prog 90 [.v (.ptr s.cells)] (.str s.aT):=by
 have hf8:=h.f8;have hl8:=h.l8;have hto:=h.to;have hrt:=h.rt;refine aK Tryz.func90 TY ?_;unfold Kw ah B8;simp only[go_sem];refine aE [4] (fun(i:Nat)=>[(2,.o (dR (s.du i))),(7,.int .i64 i)]) (fun i=>i<=s.fr.length) (fun i=>s.fr.length-i) 0 (by simp only[go_sem];rfl) (Nat.zero_le _) rfl ?_;intro i hi;simp only[go_sem];refine⟨fun h1=>⟨h1,an rG rfl (.inl rfl) ?_⟩,fun h1=>?_⟩
 ·simp only[go_sem]
  obtain⟨⟨a0,a1⟩,b0,b1⟩:=h.ed i h1;have l1:=iS a0 (by omega);have l2:=iS b0 (by omega);refine⟨by simp only[maxLen];omega,by omega,an rG rfl (.inl rfl) ?_⟩;simp only[go_sem];refine⟨by rw[List.length_append];simp only[maxLen,List.length_cons,List.length_nil];omega,by rw[ir];omega,i+1,h1,by omega,?_⟩;rw[wrap_small (by omega) (by omega),FD,List.append_assoc];rfl
 ·rw[show i=s.fr.length by omega]
  have nvp:∀p:U,(D.str p.aT).a7=true:=fun _=>rfl
  refine aE [5] (fun(i:Nat)=>[(3,.o (dR (s.cW i))),(9,.int .i64 i)]) (fun i=>i<=s.lf.length) (fun i=>s.lf.length-i) 0 (by simp only[go_sem];rfl) (Nat.zero_le _) rfl ?_;intro i hi;simp only[go_sem];refine⟨fun h1=>?_,fun h1=>?_⟩
  ·obtain⟨p1,p2⟩:=h.eq i h1
   have l1:=p1.rP;have l2:=p2.rP;refine⟨h1,an (Jx _ p1) rfl (.inl rfl) ?_⟩;simp only[go_sem];refine⟨by simp only[maxLen];omega,by omega,an (Jx _ p2) rfl (.inl rfl) ?_⟩;simp only[go_sem];refine⟨by rw[List.length_append];simp only[maxLen,List.length_cons,List.length_nil];omega,by rw[kf];omega,i+1,h1,by omega,?_⟩;rw[wrap_small (by omega) (by omega),FN,List.append_assoc];rfl
  ·rw[show i=s.lf.length by omega]
   have e1:=wj (sC h (Nat.le_refl _));have e2:=wj (sG h (Nat.le_refl _));have j1:=join_le (sep:=[32]) (sC h (Nat.le_refl _));have j2:=join_le (sep:=[32]) (sG h (Nat.le_refl _));have ht:=aa0 h;rw[ir] at e1 j1;rw[kf] at e2 j2;simp only[List.length_cons,List.length_nil] at j1 j2;refine an rG rfl (.inl rfl) ?_;simp only[go_sem];refine an (JF _ (by rw[ir];omega) (by omega)) rfl (.inl rfl) ?_;simp only[go_sem];refine an (JF _ (by rw[kf];omega) (by omega)) rfl (.inl rfl) ?_;simp only[go_sem];refine an (JH (l:=[_,_,_]) (by simp) (by unfold aa.aT at ht;omega)) rfl (.inl rfl) ?_;simp only[go_sem];rfl
def jw(l:List (List UInt8)):List UInt8:=(l.map fun x=>32::x).flatten
theorem OE{l:List (List UInt8)}:jw l=if l=[] then[] else 32::Lib.join l [32]:=by
 cases l with
 | nil=>rfl
 | cons x r=>rw[if_neg (by simp),Lib.join_cons];rfl
theorem EV{l:List (List UInt8)}{x:List UInt8}:jw (l++[x])=jw l++32::x:=by unfold jw;simp
theorem uR{l:List (List UInt8)}{b:Nat}(h:∀x∈l,x.length<=b):(jw l).length<=l.length*(b+1):=by
 induction l with
 | nil=>simp[jw]
 | cons x l ih =>
  have h1:=ih fun y hy=>h y (List.mem_cons_of_mem _ hy)
  have h2:=h x List.mem_cons_self;have e:jw (x::l)=(32::x)++jw l:=rfl;rw[e,List.length_append,List.length_cons,List.length_cons,Nat.succ_mul];omega
theorem EU{l:List (List UInt8)}:(if jw l=[] then[32,45] else jw l)=32::cZ l:=by
 rw[OE];unfold cZ;by_cases h:l=[]
 ·subst h;rfl
 ·rw[if_neg h,if_neg h,if_neg (by simp)]
theorem aaZ{s:aa}:s.aT=Lib.itoa s.nd++[32,124]++32::cZ (s.du s.fr.length)++[32,124]++32::cZ (s.cW s.lf.length):=by
 unfold aa.aT;rw[pt,pt,Lib.join_one];simp
def DC:List Nat:=[0,2,1,3,4,5,6]
def L4:Sl:=ah Tryz.types Tryz.f158 DC []
theorem Vu:aC Tryz.prog Tryz.f158 DC L4 1=true:=by decide +kernel
theorem Y1(s:aa)(h:fw s):aw Tryz.prog 158 [.v (aa.d s)] (.str s.aT):=by
 have hf8:=h.f8;have hl8:=h.l8;have hto:=h.to;have hrt:=h.rt;refine aK Tryz.func158 Vu ?_;unfold L4 ah DC;simp only[go_sem];refine aE [] (fun(i:Nat)=>[(3,.str (jw (s.du i))),(5,.int .i64 i)]) (fun i=>i<=s.fr.length) (fun i=>s.fr.length-i) 0 (by simp only[go_sem];rfl) (Nat.zero_le _) rfl ?_;intro i hi;simp only[go_sem];have hc:=uR (sC h hi);rw[ir] at hc;refine⟨fun h1=>?_,fun h1=>?_⟩
 ·obtain⟨⟨a0,a1⟩,b0,b1⟩:=h.ed i h1
  have l1:=iS a0 (by omega);have l2:=iS b0 (by omega);refine⟨by simp only[maxLen];omega,h1,an (tF a0 (by omega)) rfl (.inl rfl) ?_⟩;simp only[go_sem];refine⟨by rw[List.length_append];simp only[maxLen,List.length_cons,List.length_nil];omega,by simp only[List.length_append,maxLen,List.length_cons,List.length_nil];omega,by omega,an (tF b0 (by omega)) rfl (.inl rfl) ?_⟩;simp only[go_sem];refine⟨by simp only[List.length_append,maxLen,List.length_cons,List.length_nil];omega,i+1,h1,by omega,?_⟩;rw[wrap_small (by omega) (by omega),FD,EV];unfold aa.j7;simp only[List.append_assoc,List.cons_append,List.nil_append];rfl
 ·rw[show i=s.fr.length by omega]
  refine aE [] (fun(i:Nat)=>[(4,.str (jw (s.cW i))),(6,.int .i64 i)]) (fun i=>i<=s.lf.length) (fun i=>s.lf.length-i) 0 (by simp only[go_sem];rfl) (Nat.zero_le _) rfl ?_;intro i hi;simp only[go_sem];have hc2:=uR (sG h hi);rw[kf] at hc2;refine⟨fun h1=>?_,fun h1=>?_⟩
  ·obtain⟨p1,p2⟩:=h.eq i h1
   have l1:=p1.rP;have l2:=p2.rP;refine⟨by simp only[maxLen];omega,h1,an (JS _ p1) rfl (.inl rfl) ?_⟩;simp only[go_sem];refine⟨by rw[List.length_append];simp only[maxLen,List.length_cons,List.length_nil];omega,by simp only[List.length_append,maxLen,List.length_cons,List.length_nil];omega,by omega,an (JS _ p2) rfl (.inl rfl) ?_⟩;simp only[go_sem];refine⟨by simp only[List.length_append,maxLen,List.length_cons,List.length_nil];omega,i+1,h1,by omega,?_⟩;rw[wrap_small (by omega) (by omega),FN,EV];unfold aa.lh;simp only[List.append_assoc,List.cons_append,List.nil_append];rfl
  ·rw[show i=s.lf.length by omega]
   have e1:=uR (sC h (Nat.le_refl _));have e2:=uR (sG h (Nat.le_refl _));rw[ir] at e1;rw[kf] at e2;have l0:=iS h.nd.1 (by have:=h.nd;omega);have q1:=EU (l:=s.du s.fr.length);have q2:=EU (l:=s.cW s.lf.length);rw[aaZ,<-q1,<-q2];refine⟨fun h1=>⟨fun h2=>?_,fun h2=>?_⟩,fun h1=>⟨fun h2=>?_,fun h2=>?_⟩⟩
   all_goals
    refine an (tF h.nd.1 (by have:=h.nd;omega)) rfl (.inl rfl) ?_;simp only[go_sem]
   ·rw[if_pos h1,if_pos h2]
    exact⟨by simp only[maxLen];omega,by simp only[List.length_append,maxLen,List.length_cons,List.length_nil];omega,by simp only[List.length_append,maxLen,List.length_cons,List.length_nil];omega,by simp only[List.length_append,maxLen,List.length_cons,List.length_nil];omega,rfl⟩
   ·rw[if_pos h1,if_neg (by simpa using h2)]
    exact⟨by simp only[maxLen];omega,by simp only[List.length_append,maxLen,List.length_cons,List.length_nil];omega,by simp only[List.length_append,maxLen,List.length_cons,List.length_nil];omega,by simp only[List.length_append,maxLen,List.length_cons,List.length_nil];omega,rfl⟩
   ·rw[if_neg (by simpa using h1),if_pos h2]
    exact⟨by simp only[maxLen];omega,by simp only[List.length_append,maxLen,List.length_cons,List.length_nil];omega,by simp only[List.length_append,maxLen,List.length_cons,List.length_nil];omega,by simp only[List.length_append,maxLen,List.length_cons,List.length_nil];omega,rfl⟩
   ·rw[if_neg (by simpa using h1),if_neg (by simpa using h2)]
    exact⟨by simp only[maxLen];omega,by simp only[List.length_append,maxLen,List.length_cons,List.length_nil];omega,by simp only[List.length_append,maxLen,List.length_cons,List.length_nil];omega,by simp only[List.length_append,maxLen,List.length_cons,List.length_nil];omega,rfl⟩
end Go.D3
namespace Go.D3
open Go Proofs
set_option maxHeartbeats 4000000
set_option maxRecDepth 100000
set_option maxHeartbeats 1000000
theorem Zj{a:List UInt8}:D.slice (.str []) [.str a]=dR [a]:=rfl
attribute [go_sem] Zj
def ji(w:List UInt8):Option (Nat×Nat):=match bz 6 (Lib.cut w [62]).1,(Lib.cut w [62]).2.2,bz 6 (Lib.cut w [62]).2.1 with
 | some a,true,some b=>some (a,b)
 | _,_,_=>none
def Bl:Option (Nat×Nat)->D
 | some (a,b)=>.o (.al [ints [(a:Int),(b:Int)],.aY])
 | none=>.o (.al [ints [],eS])
def CK:List Nat:=[0,1,4,5,6,8,9,10,11,12,13,17,18,19]
def K9:Sl:=ah Tryz.types Tryz.f225 CK []
theorem UB:aC Tryz.prog Tryz.f225 CK K9 2=true:=by decide +kernel
theorem Yg(w:List UInt8)(hw:w.length<=4294967000):fK Tryz.prog 225 [.str w,.sub 0 []] [.row (.str []) [.str [62]]] (Bl (ji w)) [.dead]:=by
 refine rC .tree Tryz.func225 UB ?_;unfold K9 ah CK;simp only[go_sem];refine⟨by decide,?_⟩
 refine aE [5,6,7,8,9,10] (fun(p:Nat×List UInt8×List Int)=>[(0,.str p.2.1),(4,.o (ints p.2.2)),(13,.int .i64 p.1)])
  (fun p=>(p.1=0/\p.2.1=w/\p.2.2=[])\/(p.1=1/\(Lib.cut w [62]).2.2=true/\p.2.1=(Lib.cut w [62]).2.1/\∃a,bz 6 (Lib.cut w [62]).1=some a/\p.2.2=[(a:Int)])\/(p.1=2/\∃a b,ji w=some (a,b)/\p.2.2=[(a:Int),(b:Int)]))
  (fun p=>2-p.1) (0,w,[]) (by simp only[go_sem];rfl) (.inl ⟨rfl,rfl,rfl⟩) rfl ?_
 rintro⟨i,u,l⟩ h;simp only at h;rcases h with⟨rfl,rfl,rfl⟩ | ⟨rfl,hf,rfl,a,ha,rfl⟩ | ⟨rfl,a,b,hab,rfl⟩
 all_goals simp only[go_sem]
 ·refine an (tE (by omega)) rfl (.inl rfl) ?_
  simp only[go_sem];intro _;refine an (tG _) rfl (.inr trivial) ?_;cases ha:bz 6 (Lib.cut u [62]).1 with
  | none =>
   have hs:ji u=none:=by unfold ji;rw[ha]
   rw[hs];simp only[j6];simp only[go_sem];rfl
  | some a =>
   simp only[j6];simp only[go_sem];refine⟨fun h=>?_,fun h=>⟨by decide,(1,(Lib.cut u [62]).2.1,[(a:Int)]),.inr (.inl ⟨rfl,by simpa using h,rfl,a,rfl,rfl⟩),Nat.lt_succ_self 1,rfl⟩⟩
   have hs:ji u=none:=by
    unfold ji;rw[ha,show(Lib.cut u [62]).2.2=false by simpa using h]
   rw[hs];rfl
 ·have hcl:(Lib.cut w [62]).2.1.length<=w.length:=by
   unfold Lib.cut;split
   ·simp only[List.length_drop];omega
   ·simp
  refine an (tE (by omega)) rfl (.inl rfl) ?_;simp only[go_sem];refine⟨?_,fun h=>by simp at h⟩;refine an (tG _) rfl (.inr trivial) ?_;cases hb:bz 6 (Lib.cut w [62]).2.1 with
  | none =>
   have hs:ji w=none:=by unfold ji;rw[ha,hf,hb]
   rw[hs];simp only[j6];simp only[go_sem];rfl
  | some b =>
   simp only[j6];simp only[go_sem];have hs:ji w=some (a,b):=by unfold ji;rw[ha,hf,hb]
   exact⟨by decide,(2,_,[(a:Int),(b:Int)]),.inr (.inr ⟨rfl,a,b,hs,rfl⟩),Nat.lt_succ_self 0,rfl⟩
 ·rw[hab];rfl
end Go.D3
namespace Go.D3
open Go Proofs
set_option maxHeartbeats 4000000
set_option maxRecDepth 100000
set_option maxHeartbeats 2000000
theorem P6{a b:List UInt8}(ha:a.all bE=true)(hb:b=[]\/bE (b.getD 0 0)=false):∀(f pos:Nat),pos<=a.length->(a++b).length<=f+pos ->
  Lib.idxFuncFrom iX true ⟨(a++b).toArray⟩ f pos=if b=[] then -1 else(a.length:Int):=by
 have hsz:(⟨(a++b).toArray⟩:ByteArray).size=(a++b).length:=by show(a++b).toArray.size=_;simp
 have hap:∀{pos:Nat},pos<a.length->bE ((a++b).getD pos 0)=true:=fun {pos} h=>by
  rw[List.getD_eq_getElem?_getD,List.getElem?_append_left h,<-List.getD_eq_getElem?_getD,aN h];exact List.all_eq_true.1 ha _ (List.getElem_mem h)
 intro f;induction f with
 | zero =>
  intro pos h1 h2;rw[List.length_append] at h2;rw[if_pos (List.length_eq_zero_iff.1 (by omega))];rfl
 | succ f ih =>
  intro pos h1 h2;unfold Lib.idxFuncFrom;rw[hsz];by_cases hp:pos<(a++b).length
  ·rw[if_pos hp]
   have hr:Utf8.decode ⟨(a++b).toArray⟩ pos=cH (a++b) pos:=rfl;rw[hr];rcases A1 hp with⟨hd,he⟩ | ⟨hd,he⟩
   ·have hpa:pos<a.length:=by
     by_cases hpa:pos<a.length
     ·exact hpa
     ·have e:pos=a.length:=by omega
      rw[e,List.getD_eq_getElem?_getD,List.getElem?_append_right (Nat.le_refl _),Nat.sub_self,<-List.getD_eq_getElem?_getD] at hd;rcases hb with rfl | hb
      ·simp at hp;omega
      ·rw[hb] at hd;cases hd
    rw[he,if_neg,ih (pos+1) (by omega) (by omega)];simp only[bE,Bool.and_eq_true,decide_eq_true_eq] at hd;unfold iX;simp only[Bool.or_eq_true,decide_eq_true_eq];omega
   ·have hpa:pos=a.length:=by
     by_cases hpa:pos<a.length
     ·rw[hap hpa] at hd;cases hd
     ·omega
    subst hpa;rw[if_pos,if_neg]
    ·rintro rfl;simp at hp
    ·unfold iX
     simp only[Bool.or_eq_true,decide_eq_true_eq];exact he
  ·rw[if_neg hp]
   rw[List.length_append] at hp;rw[if_pos (List.length_eq_zero_iff.1 (by omega))]
theorem vv{n:Int}(h : 0<=n):(Lib.itoa n).all bE=true/\Lib.itoa n≠[]:=by
 obtain⟨m,rfl⟩:∃m:Nat,n=m:=⟨n.toNat,by omega⟩;rw[Lib.itoa_nonneg];obtain⟨h1,_,h3,_⟩:=Fo m;exact⟨h1,h3⟩
theorem nR{n:Int}{most:Nat}(h : 0<=n)(hl:(Lib.itoa n).length<=most):bz most (Lib.itoa n)=some n.toNat:=by
 obtain⟨m,rfl⟩:∃m:Nat,n=m:=⟨n.toNat,by omega⟩;rw[Lib.itoa_nonneg] at hl|-
 exact Fq hl
theorem nS{n:Int}(h : 0<=n)(h1:n<10):(Lib.itoa n).length=1:=by
 obtain⟨m,rfl⟩:∃m:Nat,n=m:=⟨n.toNat,by omega⟩;rw[Lib.itoa_nonneg,Lib.decDigits_one (by omega)];rfl
theorem sD{e:Int}(h : 0<=e/\e<8):((fN e).toNat:Int)=97+e:=by
 unfold fN;rw[UInt8.toNat_ofNat',Nat.mod_eq_of_lt (by omega)];omega
theorem wrap_i32{n:Int}(h : 0<=n)(h1:n<1000):IntKind.i32.wrap n=n:=by
 rw[iG ⟨by simp only[IntKind.min,IntKind.signed,IntKind.bits];simp;omega,by simp only[IntKind.max,IntKind.signed,IntKind.bits];simp;omega⟩]
theorem J2{s:List UInt8}{i:Nat}(h:i<s.length)(ha:(s.getD i 0).toNat<128):cH s i=((s.getD i 0).toNat,1):=by
 have hsz:i<(⟨s.toArray⟩:ByteArray).size:=by show i<s.toArray.size;simpa using h
 have hg:(⟨s.toArray⟩:ByteArray)[i]'hsz=s.getD i 0:=by rw[aN h];rfl
 unfold cH;rw[decode_ascii _ _ hsz (by rw[hg];exact ha),hg]
theorem J3{s:List UInt8}{i:Nat}(h:i<s.length) : 1<=(cH s i).2:=Lib.decode_width_pos _ _ (by show i<s.toArray.size;simpa using h)
def DX(t:List UInt8)(rc:D)(gs:List D):Prop:=gs=[]/\∃(p:U)(e:Bool),rc=.o (.al [U.d p,gQ e])/\∀q,dz q->t=q.aT->p=q/\e=false
def CA:List Nat:=[0,2,3,4,5,6,7,8,9,11,43,44]
def KZ:Sl:=ah Tryz.types Tryz.f226 CA []
theorem Ur:aC Tryz.prog Tryz.f226 CA KZ 1=true:=by decide +kernel
theorem JE(t:List UInt8)(ht:t.length<=4294967000):bK Tryz.prog 226 [.str t] [] (DX t):=by
 refine jc .tree Tryz.func226 Ur ?_;unfold KZ ah CA;simp only[go_sem];refine an Js rfl (.inl rfl) ?_;simp only[go_sem];refine an Yh rfl (.inl rfl) ?_;simp only[go_sem]
 have hq:∀q,dz q->t=q.aT->Lib.hasPrefix t [64]=true/\Lib.trimPrefix t [64]=Lib.itoa q.st++q.ed.map fN:=by
  rintro q hq rfl;have:Lib.hasPrefix q.aT [64]=true:=rfl;exact⟨this,by unfold Lib.trimPrefix;rw[if_pos this];rfl⟩
 have hrl:(Lib.trimPrefix t [64]).length<=t.length:=by unfold Lib.trimPrefix;split<;>simp
 generalize Lib.hasPrefix t [64]=fnd at hq;generalize Lib.trimPrefix t [64]=rest at hq hrl
 have hat:∀q,dz q->t=q.aT->(Lib.idxFunc iX true ⟨rest.toArray⟩<0->rest.length=(Lib.itoa q.st).length)/\(¬Lib.idxFunc iX true ⟨rest.toArray⟩<0->Lib.idxFunc iX true ⟨rest.toArray⟩=(Lib.itoa q.st).length):=by
  intro q h1 h2;obtain⟨_,h3⟩:=hq q h1 h2
  have hb:q.ed.map fN=[]\/bE ((q.ed.map fN).getD 0 0)=false:=by
   cases he:q.ed with
   | nil=>exact .inl rfl
   | cons e r =>
    have:=h1.ed 0 (by rw[he];simp);rw[he] at this;simp only[List.getD_cons_zero] at this;have:=sD this;refine .inr ?_;show bE (fN e)=false;simp only[bE,Bool.and_eq_false_iff,decide_eq_false_iff_not];omega
  have:=P6 (vv h1.st.1).1 hb (⟨rest.toArray⟩:ByteArray).size 0 (Nat.zero_le _) (by show _<=rest.toArray.size+0;rw[h3];simp);rw[<-h3] at this;unfold Lib.idxFunc;rw[this];split
  ·rename_i hh
   exact⟨fun _=>by rw[h3,hh];simp,fun h=>absurd (by decide) h⟩
  ·exact⟨fun h=>by omega,fun _=>rfl⟩
 have hrg:=Lib.idxFunc_range iX true ⟨rest.toArray⟩;have hsz:(⟨rest.toArray⟩:ByteArray).size=rest.length:=by show rest.toArray.size=_;simp
 rw[hsz] at hrg;generalize Lib.idxFunc iX true ⟨rest.toArray⟩=ix at hat hrg;have no:(∀q,dz q->t≠q.aT)->DX t (.o (.al [U.d U.zero,eS])) []:=fun h=>⟨rfl,U.zero,true,rfl,fun q h1 h2=>absurd h2 (h q h1)⟩
 refine⟨fun h=>?_,fun h=>?_⟩
 ·obtain⟨n,hn,hnl,hnq⟩:∃n:Nat,rest.length=n/\n<=rest.length/\∀q,dz q->t=q.aT->n=(Lib.itoa q.st).length:=⟨rest.length,rfl,Nat.le_refl _,fun q h1 h2=>(hat q h1 h2).1 h⟩
  rw[hn];refine⟨by omega,?_⟩;refine an (tG _) rfl (.inr trivial) ?_
  have hdq:∀q,dz q->t=q.aT->bz 6 (rest.take n)=some q.st.toNat:=fun q h1 h2=>by
   rw[(hq q h1 h2).2,hnq q h1 h2,List.take_left];exact nR h1.st.1 (by rw[nS h1.st.1 (by have:=h1.st;omega)];decide)
  cases hd:bz 6 (rest.take n) with
  | none =>
   rw[hd] at hdq;simp only[j6];simp only[go_sem];exact⟨by simp,_,_,no (fun q h1 h2=>by have:=hdq q h1 h2;cases this),rfl,rfl,trivial⟩
  | some m =>
   rw[hd] at hdq;simp only[j6];simp only[go_sem];refine⟨by simp,fun hf=>⟨_,_,no (fun q h1 h2=>by rw[(hq q h1 h2).1] at hf;cases hf),rfl,rfl,trivial⟩,fun _=>⟨by omega,?_⟩⟩;rw[List.take_of_length_le (by omega)];have hu:∀q,dz q->t=q.aT->rest.drop n=q.ed.map fN:=fun q h1 h2=>by rw[(hq q h1 h2).2,hnq q h1 h2,List.drop_left]
   have hul:(rest.drop n).length<=rest.length:=by rw[List.length_drop];omega
   generalize rest.drop n=u at hu hul;refine aE [9,11] (fun(p:Nat×List Int)=>[(8,.box [.int .i64 m,.o (ints p.2)]),(10,.o (.bL u p.1))]) (fun p=>p.2.length<=p.1/\∀q,dz q->t=q.aT->p.2=q.ed.take p.1) (fun p=>u.length-p.1) (0,[]) (by simp only[go_sem];rfl) ⟨Nat.le_refl _,fun _ _ _=>rfl⟩ rfl ?_;rintro⟨i,l⟩ ⟨hli,hlq⟩;simp only at hli hlq;simp only[go_sem]
   have ha:∀q,dz q->t=q.aT->i<u.length->0<=q.ed.getD i 0/\q.ed.getD i 0<8/\i<q.ed.length/\(cH u i).2=1/\((cH u i).1:Int)=97+q.ed.getD i 0:=by
    intro q h1 h2 h3;have hue:=hu q h1 h2;have h4:i<q.ed.length:=by rw[hue,List.length_map] at h3;exact h3
    obtain⟨a0,a1⟩:=h1.ed i h4;have hb:u.getD i 0=fN (q.ed.getD i 0):=by rw[hue,List.getD_eq_getElem?_getD,List.getElem?_map,List.getElem?_eq_getElem h4,aN h4];rfl
    have he:=sD ⟨a0,a1⟩;have hr:=J2 h3 (by rw[hb];omega);rw[hr,hb];exact⟨a0,a1,h4,rfl,he⟩
   refine⟨fun h3=>⟨by simp,fun h4=>⟨_,_,no (fun q h1 h2=>?_),rfl,rfl,trivial⟩,fun h4=>⟨by omega,?_⟩⟩,fun h3=>⟨_,_,⟨rfl,⟨m,l⟩,false,rfl,fun q h1 h2=>⟨?_,rfl⟩⟩,rfl,rfl,trivial⟩⟩
   ·obtain⟨a0,a1,a2,a3,a4⟩:=ha q h1 h2 h3
    rw[a4] at h4;simp only[Bool.or_eq_true,decide_eq_true_eq] at h4;omega
   ·simp only[Bool.or_eq_false_iff,decide_eq_false_iff_not] at h4
    have hw:IntKind.i64.wrap (IntKind.i32.wrap (((cH u i).1:Int)-97))=((cH u i).1:Int)-97:=by rw[wrap_i32 (by omega) (by omega),wrap_small (by omega) (by omega)]
    rw[hw];have hrp:=J3 h3;refine⟨(i+(cH u i).2,l++[((cH u i).1:Int)-97]),⟨by simp;omega,fun q h1 h2=>?_⟩,by show u.length-(i+_)<_;omega,rfl⟩;obtain⟨a0,a1,a2,a3,a4⟩:=ha q h1 h2 h3;show l++_=q.ed.take (i+(cH u i).2);rw[a3,a4,bN a2 0,hlq q h1 h2,Int.add_comm 97,Int.add_sub_cancel]
   ·have h5:=hdq q h1 h2
    have h6:=hlq q h1 h2;have h7:=hu q h1 h2;rw[List.take_of_length_le (by rw[h7,List.length_map] at h3;exact h3)] at h6;injection h5 with h5
    have:=h1.st;rw[h6,show(m:Int)=q.st by omega]
 ·obtain⟨n,rfl,hnl,hnq⟩:∃n:Nat,ix=n/\n<=rest.length/\∀q,dz q->t=q.aT->n=(Lib.itoa q.st).length:=⟨ix.toNat,by omega,by omega,fun q h1 h2=>by have:=(hat q h1 h2).2 h;omega⟩
  rw[Int.toNat_natCast];refine⟨by omega,?_⟩;refine an (tG _) rfl (.inr trivial) ?_
  have hdq:∀q,dz q->t=q.aT->bz 6 (rest.take n)=some q.st.toNat:=fun q h1 h2=>by
   rw[(hq q h1 h2).2,hnq q h1 h2,List.take_left];exact nR h1.st.1 (by rw[nS h1.st.1 (by have:=h1.st;omega)];decide)
  cases hd:bz 6 (rest.take n) with
  | none =>
   rw[hd] at hdq;simp only[j6];simp only[go_sem];exact⟨by simp,_,_,no (fun q h1 h2=>by have:=hdq q h1 h2;cases this),rfl,rfl,trivial⟩
  | some m =>
   rw[hd] at hdq;simp only[j6];simp only[go_sem];refine⟨by simp,fun hf=>⟨_,_,no (fun q h1 h2=>by rw[(hq q h1 h2).1] at hf;cases hf),rfl,rfl,trivial⟩,fun _=>⟨by omega,?_⟩⟩;rw[List.take_of_length_le (by omega)];have hu:∀q,dz q->t=q.aT->rest.drop n=q.ed.map fN:=fun q h1 h2=>by rw[(hq q h1 h2).2,hnq q h1 h2,List.drop_left]
   have hul:(rest.drop n).length<=rest.length:=by rw[List.length_drop];omega
   generalize rest.drop n=u at hu hul;refine aE [9,11] (fun(p:Nat×List Int)=>[(8,.box [.int .i64 m,.o (ints p.2)]),(10,.o (.bL u p.1))]) (fun p=>p.2.length<=p.1/\∀q,dz q->t=q.aT->p.2=q.ed.take p.1) (fun p=>u.length-p.1) (0,[]) (by simp only[go_sem];rfl) ⟨Nat.le_refl _,fun _ _ _=>rfl⟩ rfl ?_;rintro⟨i,l⟩ ⟨hli,hlq⟩;simp only at hli hlq;simp only[go_sem]
   have ha:∀q,dz q->t=q.aT->i<u.length->0<=q.ed.getD i 0/\q.ed.getD i 0<8/\i<q.ed.length/\(cH u i).2=1/\((cH u i).1:Int)=97+q.ed.getD i 0:=by
    intro q h1 h2 h3;have hue:=hu q h1 h2;have h4:i<q.ed.length:=by rw[hue,List.length_map] at h3;exact h3
    obtain⟨a0,a1⟩:=h1.ed i h4;have hb:u.getD i 0=fN (q.ed.getD i 0):=by rw[hue,List.getD_eq_getElem?_getD,List.getElem?_map,List.getElem?_eq_getElem h4,aN h4];rfl
    have he:=sD ⟨a0,a1⟩;have hr:=J2 h3 (by rw[hb];omega);rw[hr,hb];exact⟨a0,a1,h4,rfl,he⟩
   refine⟨fun h3=>⟨by simp,fun h4=>⟨_,_,no (fun q h1 h2=>?_),rfl,rfl,trivial⟩,fun h4=>⟨by omega,?_⟩⟩,fun h3=>⟨_,_,⟨rfl,⟨m,l⟩,false,rfl,fun q h1 h2=>⟨?_,rfl⟩⟩,rfl,rfl,trivial⟩⟩
   ·obtain⟨a0,a1,a2,a3,a4⟩:=ha q h1 h2 h3
    rw[a4] at h4;simp only[Bool.or_eq_true,decide_eq_true_eq] at h4;omega
   ·simp only[Bool.or_eq_false_iff,decide_eq_false_iff_not] at h4
    have hw:IntKind.i64.wrap (IntKind.i32.wrap (((cH u i).1:Int)-97))=((cH u i).1:Int)-97:=by rw[wrap_i32 (by omega) (by omega),wrap_small (by omega) (by omega)]
    rw[hw];have hrp:=J3 h3;refine⟨(i+(cH u i).2,l++[((cH u i).1:Int)-97]),⟨by simp;omega,fun q h1 h2=>?_⟩,by show u.length-(i+_)<_;omega,rfl⟩;obtain⟨a0,a1,a2,a3,a4⟩:=ha q h1 h2 h3;show l++_=q.ed.take (i+(cH u i).2);rw[a3,a4,bN a2 0,hlq q h1 h2,Int.add_comm 97,Int.add_sub_cancel]
   ·have h5:=hdq q h1 h2
    have h6:=hlq q h1 h2;have h7:=hu q h1 h2;rw[List.take_of_length_le (by rw[h7,List.length_map] at h3;exact h3)] at h6;injection h5 with h5
    have:=h1.st;rw[h6,show(m:Int)=q.st by omega]
end Go.D3
namespace Go.D3
open Go
def wB(b:UInt8):Bool:=decide (48<=b.toNat)&&decide (b.toNat<=64) || decide (97<=b.toNat)&&decide (b.toNat<=104)
theorem xc{b:UInt8}(h:wB b=true):b≠32/\b≠124/\b≠45:=by
 unfold wB at h;simp only[Bool.or_eq_true,Bool.and_eq_true,decide_eq_true_eq] at h;refine⟨?_,?_,?_⟩<;>(rintro rfl;revert h;decide)
theorem u4{b:UInt8}(h:bE b=true):wB b=true:=by
 unfold wB;simp only[bE,Bool.and_eq_true,decide_eq_true_eq] at h;simp only[Bool.or_eq_true,Bool.and_eq_true,decide_eq_true_eq];omega
theorem pq{n:Int}{b:UInt8}(h : 0<=n)(hb:b∈Lib.itoa n):bE b=true:=List.all_eq_true.1 (vv h).1 b hb
theorem uh{p:U}(h:dz p){b:UInt8}(hb:b∈p.aT):wB b=true/\b≠61:=by
 unfold U.aT at hb;rcases List.mem_cons.1 hb with rfl | hb
 ·decide
 ·rcases List.mem_append.1 hb with hb | hb
  ·have:=pq h.st.1 hb
   refine⟨u4 this,?_⟩;rintro rfl;revert this;decide
  ·obtain⟨e,he,rfl⟩:=List.mem_map.1 hb
   obtain⟨j,hj,rfl⟩:=List.getElem_of_mem he;have:=h.ed j hj;rw[aN hj] at this;have h2:=sD this;refine⟨by unfold wB;simp only[Bool.or_eq_true,Bool.and_eq_true,decide_eq_true_eq];omega,fun hh=>?_⟩;rw[hh] at h2;have:(61:UInt8).toNat=61:=rfl;omega
section
variable{s:aa}(h:fw s)
include h
theorem fw.FE{x:List UInt8}(hx:x∈s.du s.fr.length):∀b∈x,wB b=true:=by
 obtain⟨i,hi,rfl⟩:=List.mem_map.1 hx;obtain⟨a,b⟩:=h.ed i (List.mem_range.1 hi);intro c hc;rcases List.mem_append.1 hc with hc | hc
 ·exact u4 (pq a.1 hc)
 ·rcases List.mem_cons.1 hc with rfl | hc
  ·decide
  ·exact u4 (pq b.1 hc)
theorem fw.FO{x:List UInt8}(hx:x∈s.cW s.lf.length):∀b∈x,wB b=true:=by
 obtain⟨i,hi,rfl⟩:=List.mem_map.1 hx;obtain⟨a,b⟩:=h.eq i (List.mem_range.1 hi);intro c hc;rcases List.mem_append.1 hc with hc | hc
 ·exact(uh a hc).1
 ·rcases List.mem_cons.1 hc with rfl | hc
  ·decide
  ·exact(uh b hc).1
end
theorem GN{l:List (List UInt8)}{c b:UInt8}(h:b∈Lib.join l [c]):b=c\/∃x∈l,b∈x:=by
 cases l with
 | nil=>rw[Lib.join_nil] at h;cases h
 | cons x r =>
  rw[Lib.join_cons] at h;rcases List.mem_append.1 h with h | h
  ·exact .inr ⟨x,by simp,h⟩
  ·unfold Lib.joinTail at h
   obtain⟨y,hy,hb⟩:=List.mem_flatten.1 h;obtain⟨z,hz,rfl⟩:=List.mem_map.1 hy;rcases List.mem_append.1 hb with hb | hb
   ·exact .inl (by simpa using hb)
   ·exact .inr ⟨z,by simp[hz],hb⟩
theorem ID{l:List (List UInt8)}(hl:∀x∈l,∀b∈x,wB b=true):(124:UInt8) ∉ cZ l:=by
 unfold cZ;split
 ·decide
 ·intro h
  rcases GN h with h | ⟨x,hx,hb⟩
  ·cases h
  ·exact(xc (hl x hx _ hb)).2.1 rfl
theorem M5{l:List (List UInt8)}(hl:∀x∈l,∀b∈x,wB b=true)(h0:∀x∈l,x≠[]):dh (cZ l)=l:=by
 unfold cZ;by_cases h:l=[]
 ·subst h;rfl
 ·rw[if_neg h]
  unfold dh;rw[if_neg,MD h fun x hx hb=>(xc (hl x hx _ hb)).1 rfl];intro hj;have:(45:UInt8)∈Lib.join l [32]:=by rw[hj];simp
  rcases GN this with h | ⟨x,hx,hb⟩
  ·cases h
  ·exact(xc (hl x hx _ hb)).2.2 rfl
theorem IF{s:aa}(h:fw s):aS [32,124,32] 0 s.aT=[Lib.itoa s.nd,cZ (s.du s.fr.length),cZ (s.cW s.lf.length)]:=by
 unfold aa.aT
 rw[pt,pt,Lib.join_one,List.append_assoc,<-List.append_assoc,Mx (by decide) fun hb=>(xc (u4 (pq h.nd.1 hb))).2.1 rfl,
  Mx (by decide) (ID fun x hx=>h.FE hx),aao (ID fun x hx=>h.FO hx)]
theorem M3{s:aa}(h:fw s):dh (cZ (s.du s.fr.length))=s.du s.fr.length:=M5 (fun x hx=>h.FE hx) fun x hx=>by
 obtain⟨i,_,rfl⟩:=List.mem_map.1 hx;unfold aa.j7;simp
theorem M4{s:aa}(h:fw s):dh (cZ (s.cW s.lf.length))=s.cW s.lf.length:=M5 (fun x hx=>h.FO hx) fun x hx=>by
 obtain⟨i,_,rfl⟩:=List.mem_map.1 hx;unfold aa.lh;simp
theorem index_one{c:UInt8}{b:List UInt8}:∀{a:List UInt8},c ∉ a->Lib.index (a++c::b) [c]=a.length
 | [],_=>by rw[List.nil_append,Lib.index];simp[List.isPrefixOf]
 | x::a,h=>by
  have hx:x≠c:=fun hh=>h (by simp[hh])
  have:=index_one (c:=c) (b:=b) (a:=a) fun hh=>h (List.mem_cons_of_mem _ hh)
  have hp:([c]:List UInt8).isPrefixOf (x::(a++c::b))=false:=by rw[rz];simpa using hx
  rw[List.cons_append,Lib.index,hp];simp only[Bool.false_eq_true,if_false];rw[this,if_neg (by simp),List.length_cons];rfl
theorem yj{c:UInt8}{a b:List UInt8}(h:c ∉ a):Lib.cut (a++c::b) [c]=(a,b,true):=by
 unfold Lib.cut;rw[index_one h,if_pos (by omega),Int.toNat_natCast,List.take_left,show a.length + [c].length=(a++[c]).length by simp,show a++c::b=(a++[c])++b by simp,List.drop_left]
theorem MF{s:aa}(h:fw s){i:Nat}(hi:i<s.fr.length):ji (s.j7 i)=some ((s.fr.getD i 0).toNat,(s.to.getD i 0).toNat):=by
 obtain⟨a,b⟩:=h.ed i hi;unfold ji aa.j7;rw[yj fun hb=>by have:=pq a.1 hb;revert this;decide];simp only[nR a.1 (most:=6) (by rw[nS a.1 (by omega)];decide),nR b.1 (most:=6) (by rw[nS b.1 (by omega)];decide)]
theorem Pa{s:aa}(h:fw s){i:Nat}(hi:i<s.lf.length):Lib.cut (s.lh i) [61]=((s.lf.getD i U.zero).aT,(s.rt.getD i U.zero).aT,true) :=
 yj fun hb=>(uh (h.eq i hi).1 hb).2 rfl
theorem yt{s:aa}{n i:Nat}(h:i<n):(s.du n).getD i []=s.j7 i:=by
 unfold aa.du;rw[List.getD_eq_getElem?_getD,List.getElem?_map,List.getElem?_range h];rfl
theorem FM{s:aa}{n i:Nat}(h:i<n):(s.cW n).getD i []=s.lh i:=by
 unfold aa.cW;rw[List.getD_eq_getElem?_getD,List.getElem?_map,List.getElem?_range h];rfl
end Go.D3
namespace Go.D3
open Go Proofs
set_option maxHeartbeats 4000000
set_option maxRecDepth 100000
inductive rZ:D->Prop
 | one:rZ eS
 | join {a b:Bool} (h:(a || b)=true):rZ (kx a b)
def D1(t:List UInt8)(rc:D)(gs:List D):Prop:=gs=[]/\∃(s:aa)(e:D),rc=.o (.al [aa.d s,e])/\(e=.aY\/rZ e)/\∀q:aa,q.ok=true->t=q.aT->s=q/\e=.aY
def CB:List Nat:=[0,2,3,4,5,6,7,9,10,11,13,14,15,17,18,19,20,21,45,46,47,81,82,83]
def K0:Sl:=ah Tryz.types Tryz.f200 CB [(0,225),(0,226),(0,227)]
theorem Us:aC Tryz.prog Tryz.f200 CB K0 1=true:=by decide +kernel
theorem Ya(t:List UInt8)(ht:t.length<=4294966000):bK Tryz.prog 200 [.str t] [] (D1 t):=by
 have no:∀e,rZ e->(∀q:aa,q.ok=true->t≠q.aT)->D1 t (.o (.al [aa.d aa.zero,e])) []:=fun e he h=>⟨rfl,aa.zero,e,rfl,.inr he,fun q h1 h2=>absurd h2 (h q h1)⟩
 refine jc .tree Tryz.func200 Us ?_;unfold K0 ah CB;simp only[go_sem];refine an (AT (by decide) (by omega)) rfl (.inl (kG _)) ?_;have hps:∀q:aa,q.ok=true->t=q.aT->aS [32,124,32] 0 t=[Lib.itoa q.nd,cZ (q.du q.fr.length),cZ (q.cW q.lf.length)]:=fun q h1 h2=>by rw[h2];exact IF (c6 h1)
 have hpl:∀x∈aS [32,124,32] 0 t,x.length<=t.length:=fun x hx=>iF hx
 generalize aS [32,124,32] 0 t=ps at hps hpl;simp only[go_sem];refine⟨fun h=>⟨_,_,no eS .one (fun q h1 h2=>by rw[hps q h1 h2] at h;simp at h),rfl,rfl,trivial⟩,fun h=>?_⟩
 have h3:ps.length=3:=by
  have:(ps.length:Int)=3:=by simpa using h
  omega
 obtain⟨p0,p1,p2,rfl⟩:∃p0 p1 p2,ps=[p0,p1,p2]:=by
  match ps,h3 with
  | [a,b,c],_=>exact⟨a,b,c,rfl⟩
 clear h h3;have l1:=hpl p1 (by simp);have l2:=hpl p2 (by simp);simp only[go_sem];refine⟨by decide,an (tG _) rfl (.inr trivial) ?_⟩
 have hdq:∀q:aa,q.ok=true->t=q.aT->bz 6 p0=some q.nd.toNat/\p1=cZ (q.du q.fr.length)/\p2=cZ (q.cW q.lf.length):=fun q h1 h2=>by
  have h3:=hps q h1 h2;simp only[List.cons.injEq,and_true] at h3;have:=(c6 h1).nd;exact⟨by rw[h3.1];exact nR this.1 (by rw[nS this.1 (by omega)];decide),h3.2.1,h3.2.2⟩
 clear hps hpl;cases hd:bz 6 p0 with
 | none =>
  rw[hd] at hdq;simp only[j6];simp only[go_sem];exact⟨_,_,no eS .one (fun q h1 h2=>by have:=(hdq q h1 h2).1;cases this),rfl,rfl,trivial⟩
 | some n =>
  rw[hd] at hdq;simp only[j6];simp only[go_sem];refine⟨by decide,an (JG _ (by omega)) rfl (.inl (kG _)) ?_⟩;have hw1:∀q:aa,q.ok=true->t=q.aT->dh p1=q.du q.fr.length:=fun q h1 h2=>by rw[(hdq q h1 h2).2.1];exact M3 (c6 h1)
  have hn1:(dh p1).length<=p1.length+1/\∀x∈dh p1,x.length<=p1.length:=by
   unfold dh;split
   ·exact⟨by simp,fun x hx=>by cases hx⟩
   ·exact⟨oC,fun x hx=>iF hx⟩
  generalize dh p1=ws at hw1 hn1;simp only[go_sem];refine aE [7,8,9] (fun(p:Nat×List Int×List Int)=>[(6,.box [.int .i64 n,.o (ints p.2.1),.o (ints p.2.2),.o (ae U.d U.zero []),.o (ae U.d U.zero [])]),(20,.int .i64 p.1)]) (fun p=>p.1<=ws.length/\p.2.1.length=p.1/\p.2.2.length=p.1/\∀q:aa,q.ok=true->t=q.aT->p.2.1=q.fr.take p.1/\p.2.2=q.to.take p.1) (fun p=>ws.length-p.1) (0,[],[]) (by simp only[go_sem];rfl) ⟨Nat.zero_le _,rfl,rfl,fun _ _ _=>⟨rfl,rfl⟩⟩ rfl ?_;rintro⟨i,fr,to⟩ ⟨hi,hf,ht2,hq⟩;simp only at hi hf ht2 hq;simp only[go_sem];refine⟨fun h=>⟨h,?_⟩,fun h=>?_⟩
  ·have hx:ws.getD i []∈ws:=by rw[aN h];exact List.getElem_mem _
   have hxl:=hn1.2 _ hx;refine jB [1001] false (Yg (ws.getD i []) (by omega)) ?_;cases hs:ji (ws.getD i []) with
   | none =>
    simp only[Bl];simp only[go_sem];refine⟨_,_,no eS .one (fun q h1 h2=>?_),rfl,rfl,trivial⟩;have hw:=hw1 q h1 h2;rw[hw,yt (by rw[hw,ir] at h;exact h),MF (c6 h1) (by rw[hw,ir] at h;exact h)] at hs;cases hs
   | some ab =>
    obtain⟨a,b⟩:=ab;simp only[Bl];simp only[go_sem];refine⟨by decide,by omega,by decide,by omega,(i+1,fr++[(a:Int)],to++[(b:Int)]),⟨h,by simp[hf],by simp[ht2],fun q h1 h2=>?_⟩,by show ws.length-(i+1)<_;omega,by rw[wrap_small (by omega) (by omega)];rfl⟩;have hw:=hw1 q h1 h2;have hlt:i<q.fr.length:=by rw[hw,ir] at h;exact h
    have hT:=c6 h1;obtain⟨a1,b1⟩:=hT.ed i hlt;rw[hw,yt hlt,MF hT hlt] at hs;simp only[Option.some.injEq,Prod.mk.injEq] at hs;obtain⟨q1,q2⟩:=hq q h1 h2;show fr++_=q.fr.take (i+1)/\to++_=q.to.take (i+1);rw[bN hlt 0,bN (by rw[hT.to];exact hlt) 0,q1,q2,<-hs.1,<-hs.2,Int.toNat_of_nonneg a1.1,Int.toNat_of_nonneg b1.1];exact⟨rfl,rfl⟩
  ·refine⟨by decide,?_⟩
   have e3:([p0,p1,p2]:List (List UInt8)).getD (Int.toNat 2) []=p2:=rfl;rw[e3];refine an (JG _ (by omega)) rfl (.inl (kG _)) ?_
   have hqf:∀q:aa,q.ok=true->t=q.aT->fr=q.fr/\to=q.to:=fun q h1 h2=>by
    obtain⟨q1,q2⟩:=hq q h1 h2;have hw:=hw1 q h1 h2;rw[hw,ir] at h hi;have:=(c6 h1).to;rw[List.take_of_length_le (by omega)] at q1 q2;exact⟨q1,q2⟩
   have hw2:∀q:aa,q.ok=true->t=q.aT->dh p2=q.cW q.lf.length:=fun q h1 h2=>by rw[(hdq q h1 h2).2.2];exact M4 (c6 h1)
   have hn2:(dh p2).length<=p2.length+1/\∀x∈dh p2,x.length<=p2.length:=by
    unfold dh;split
    ·exact⟨by simp,fun x hx=>by cases hx⟩
    ·exact⟨oC,fun x hx=>iF hx⟩
   have hdn:∀q:aa,q.ok=true->t=q.aT->(n:Int)=q.nd:=fun q h1 h2=>by
    have h3:=(hdq q h1 h2).1;have:=(c6 h1).nd;injection h3 with h3
    omega
   clear hdq hq hw1 hn1;generalize dh p2=vs at hw2 hn2;simp only[go_sem];refine aE [10,11,12,13,14,15,16,17] (fun(p:Nat×List U×List U)=>[(6,.box [.int .i64 n,.o (ints fr),.o (ints to),.o (ae U.d U.zero p.2.1),.o (ae U.d U.zero p.2.2)]),(23,.int .i64 p.1)]) (fun p=>p.1<=vs.length/\p.2.1.length=p.1/\p.2.2.length=p.1/\∀q:aa,q.ok=true->t=q.aT->p.2.1=q.lf.take p.1/\p.2.2=q.rt.take p.1) (fun p=>vs.length-p.1) (0,[],[]) (by simp only[go_sem];rfl) ⟨Nat.zero_le _,rfl,rfl,fun _ _ _=>⟨rfl,rfl⟩⟩ rfl ?_;rintro⟨j,lf,rt⟩ ⟨hj,hlf,hrt,hq⟩;simp only at hj hlf hrt hq;simp only[go_sem];refine⟨fun h2=>⟨h2,?_⟩,fun h2=>?_⟩
   ·have hx:vs.getD j []∈vs:=by rw[aN h2];exact List.getElem_mem _
    have hxl:=hn2.2 _ hx;refine an (tE (by omega)) rfl (.inl rfl) ?_
    have hc:(Lib.cut (vs.getD j []) [61]).1.length<=t.length/\(Lib.cut (vs.getD j []) [61]).2.1.length<=t.length:=by
     unfold Lib.cut;split
     ·exact⟨by simp only[List.length_take];omega,by simp only[List.length_drop];omega⟩
     ·exact⟨by show(vs.getD j []).length<=_;omega,by simp⟩
    have hcq:∀q:aa,q.ok=true->t=q.aT->j<q.lf.length/\(Lib.cut (vs.getD j []) [61]).1=(q.lf.getD j U.zero).aT/\(Lib.cut (vs.getD j []) [61]).2.1=(q.rt.getD j U.zero).aT:=fun q h3 h4=>by
     have hw:=hw2 q h3 h4;have hlt:j<q.lf.length:=by rw[hw,kf] at h2;exact h2
     rw[hw,FM hlt,Pa (c6 h3) hlt];exact⟨hlt,rfl,rfl⟩
    generalize Lib.cut (vs.getD j []) [61]=cc at hc hcq;simp only[go_sem];refine gP [] false (JE cc.1 (by omega)) ?_;rintro _ _ ⟨rfl,p,e1,rfl,hp⟩;refine⟨(by repeat(first | exact trivial | refine⟨(fun h=>by cases h),?_⟩)),(fun h=>by cases h),?_⟩
    have hpp:∀q:aa,q.ok=true->t=q.aT->j<q.lf.length/\p=q.lf.getD j U.zero/\e1=false:=fun q h3 h4=>by
     obtain⟨a1,a2,a3⟩:=hcq q h3 h4;exact⟨a1,hp _ ((c6 h3).eq j a1).1 a2⟩
    cases e1<;>simp only[gQ]<;>simp only[go_sem]
    all_goals
     refine gP [] false (JE cc.2.1 (by omega)) ?_;rintro _ _ ⟨rfl,p',e2,rfl,hp2⟩;refine⟨(by repeat(first | exact trivial | refine⟨(fun h=>by cases h),?_⟩)),(fun h=>by cases h),?_⟩
     have hpp2:∀q:aa,q.ok=true->t=q.aT->p'=q.rt.getD j U.zero/\e2=false:=fun q h3 h4=>by
      obtain⟨a1,a2,a3⟩:=hcq q h3 h4;exact hp2 _ ((c6 h3).eq j a1).2 a3
     cases e2<;>simp only[gQ]<;>simp only[go_sem]
    ·refine jB [1002] false (wI (a:=false) (b:=false)) ?_
     simp only[kx];simp only[go_sem];refine⟨by omega,by omega,(j+1,lf++[p],rt++[p']),⟨h2,by simp[hlf],by simp[hrt],fun q h3 h4=>?_⟩,by show vs.length-(j+1)<_;omega,by rw[wrap_small (by omega) (by omega)];rfl⟩;obtain⟨a1,a2,_⟩:=hpp q h3 h4;obtain⟨a3,_⟩:=hpp2 q h3 h4;obtain⟨q1,q2⟩:=hq q h3 h4;show lf++_=q.lf.take (j+1)/\rt++_=q.rt.take (j+1);rw[bN a1 U.zero,bN (by rw[(c6 h3).rt];exact a1) U.zero,q1,q2,a2,a3];exact⟨rfl,rfl⟩
    ·refine jB [1002] false (wI (a:=false) (b:=true)) ?_
     simp only[kx,iT];simp only[go_sem];exact⟨_,_,no (kx false true) (.join rfl) (fun q h3 h4=>by have:=(hpp2 q h3 h4).2;cases this),rfl,rfl,trivial⟩
    ·refine jB [1002] false (wI (a:=true) (b:=false)) ?_
     simp only[kx,iT];simp only[go_sem];exact⟨_,_,no (kx true false) (.join rfl) (fun q h3 h4=>by have:=(hpp q h3 h4).2.2;cases this),rfl,rfl,trivial⟩
    ·refine jB [1002] false (wI (a:=true) (b:=true)) ?_
     simp only[kx,iT];simp only[go_sem];exact⟨_,_,no (kx true true) (.join rfl) (fun q h3 h4=>by have:=(hpp q h3 h4).2.2;cases this),rfl,rfl,trivial⟩
   ·refine⟨_,_,⟨rfl,⟨n,fr,to,lf,rt⟩,.aY,rfl,.inl rfl,fun q h3 h4=>⟨?_,rfl⟩⟩,rfl,rfl,trivial⟩
    obtain⟨a1,a2⟩:=hqf q h3 h4;obtain⟨a3,a4⟩:=hq q h3 h4;have hw:=hw2 q h3 h4;have:=(c6 h3).rt;rw[hw,kf] at h2;rw[List.take_of_length_le (by omega)] at a3 a4;rw[a1,a2,a3,a4,hdn q h3 h4]
end Go.D3
namespace Go.D3
open Go Proofs
set_option maxHeartbeats 4000000
set_option maxRecDepth 100000
noncomputable def gY(t:List UInt8):Option aa:=by
 classical
 exact if h:∃q:aa,q.ok=true/\t=q.aT then some h.choose else none
theorem wv{t:List UInt8}(h:∀q:aa,q.ok=true->t≠q.aT):gY t=none:=by
 unfold gY;rw[dif_neg];rintro⟨q,h1,h2⟩;exact h q h1 h2
theorem IT{t:List UInt8}{s:aa}(h:s.ok=true)(ht:t=s.aT)(hu:∀q:aa,q.ok=true->t=q.aT->s=q):gY t=some s:=by
 unfold gY;have hh:∃q:aa,q.ok=true/\t=q.aT:=⟨s,h,ht⟩;rw[dif_pos hh,hu _ hh.choose_spec.1 hh.choose_spec.2]
theorem Wy{t:List UInt8}{s:aa}(h:gY t=some s):s.ok=true/\t=s.aT:=by
 unfold gY at h;split at h
 ·rename_i hh
  injection h with h
  rw[<-h];exact hh.choose_spec
 ·cases h
def mN:Option aa->D
 | some s=>.al [aa.d s,.int .i64 0]
 | none=>.al [aa.d aa.zero,.int .i64 6]
theorem IS(o:Option aa):(mN o).a7=true:=by cases o<;>simp only[mN,D.a7,db,Tm,Bool.and_self]
theorem GM{a b:Bool}(h:(a || b)=true):∃r,kx a b=iT (eS::r):=by
 match a,b,h with
 | false,false,h=>cases h
 | false,true,_=>exact⟨[],rfl⟩
 | true,false,_=>exact⟨[],rfl⟩
 | true,true,_=>exact⟨[eS],rfl⟩
def BS:List Nat:=[0,2,3,4,5]
def Kf:Sl:=ah Tryz.types Tryz.f166 BS [(0,200)]
theorem TI:aC Tryz.prog Tryz.f166 BS Kf 1=true:=by decide +kernel
theorem XG(t:List UInt8)(ht:t.length<=4294966000):aw Tryz.prog 166 [.v (.str t)] (mN (gY t)):=by
 refine aK Tryz.func166 TI ?_;unfold Kf ah BS;simp only[go_sem];refine gP [] false (Ya t ht) ?_;rintro _ _ ⟨rfl,s,e,rfl,he,hq⟩;refine⟨(by repeat(first | exact trivial | refine⟨(fun h=>by cases h),?_⟩)),(fun h=>by cases h),?_⟩
 have bad:rZ e->gY t=none:=fun h=>wv fun q h1 h2=>by
  have:=(hq q h1 h2).2;cases h with
  | one=>cases this
  | @join a b hab =>
   obtain⟨r,hj⟩:=GM hab;rw[hj] at this;cases this
 rcases he with rfl | he
 ·simp only[go_sem]
  refine an Yj rfl (.inl rfl) ?_;simp only[go_sem];refine bu (fun _=>JA s) rfl (fun h=>h) (.inl rfl) ?_;simp only[go_sem];cases hok:s.ok with
  | false =>
   rw[wv fun q h1 h2=>by have:=(hq q h1 h2).1;rw[this] at hok;rw[hok] at h1;cases h1];simp only[go_sem];refine bu (res:=.str []) (fun h=>by cases h) rfl (fun h=>by cases h) (.inl rfl) ?_;simp only[go_sem];rfl
  | true =>
   simp only[go_sem];refine bu (fun _=>XO s (c6 hok)) rfl (fun h=>h) (.inl rfl) ?_;simp only[go_sem];refine⟨fun h=>?_,fun h=>?_⟩
   ·rw[wv fun q h1 h2=>by have:=(hq q h1 h2).1;rw[this,<-h2] at h;simp at h]
    rfl
   ·rw[IT hok (by simpa using Eq.symm (by simpa using h)) fun q h1 h2=>(hq q h1 h2).1]
    rfl
 ·rw[bad he]
  cases he with
  | one =>
   simp only[go_sem];refine an Yl rfl (.inl rfl) ?_;simp only[go_sem];refine bu (res:=.bool false) (fun h=>by cases h) rfl (fun h=>by cases h) (.inl rfl) ?_;simp only[go_sem];refine bu (res:=.str []) (fun h=>by cases h) rfl (fun h=>by cases h) (.inl rfl) ?_;simp only[go_sem];rfl
  | @join a b hab =>
   obtain⟨r,hj⟩:=GM hab;rw[hj];simp only[iT];simp only[go_sem];refine an (Yi (r:=r)) rfl (.inl rfl) ?_;simp only[go_sem];refine bu (res:=.bool false) (fun h=>by cases h) rfl (fun h=>by cases h) (.inl rfl) ?_;simp only[go_sem];refine bu (res:=.str []) (fun h=>by cases h) rfl (fun h=>by cases h) (.inl rfl) ?_;simp only[go_sem];rfl
end Go.D3
