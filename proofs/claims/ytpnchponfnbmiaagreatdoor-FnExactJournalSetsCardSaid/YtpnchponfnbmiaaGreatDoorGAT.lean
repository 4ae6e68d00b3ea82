/- CONTRACTS: split texts, both sides. -/
import Derived.Test.YtpnchponfnbmiaaGreatDoorGAA
import Derived.Test.YtpnchponfnbmiaaGreatDoorGAR
import Derived.Test.YtpnchponfnbmiaaGreatDoorGAS
namespace Go.D3
open Go Proofs
set_option maxHeartbeats 4000000
set_option maxRecDepth 100000
attribute [go_sem] bytesOf.eq_1 bytesOf.eq_2
theorem Fp(n:Nat)(h:n<18446744073709551616):(Lib.decDigits n).length<=20:=by rw[Lib.decDigits_length];exact Lib.nDigits_le20 n h
theorem yo{n:Nat}(h:¬n<10):Lib.decDigits n=Lib.decDigits (n / 10)++[UInt8.ofNat (48+n % 10)]:=by rw[Lib.decDigits,dif_neg h]
theorem Fu{m:Nat}(h:m<10):(IntKind.u8.wrap (IntKind.i64.wrap (48+(m:Int)))).toNat=48+m:=by
 rw[wrap_small (by omega) (by omega),iG ⟨by simp[IntKind.min,IntKind.signed];omega,by simp[IntKind.max,IntKind.signed,IntKind.bits];omega⟩];omega
def C6:List Nat:=[0,2]
def Lv:Sl:=ah Tryz.types Tryz.f95 C6 []
theorem UY:aC Tryz.prog Tryz.f95 C6 Lv 1=true:=by decide +kernel
theorem YI(n:Nat)(hn:n<=4611686018427387900):aw Tryz.prog 95 [.v (.int .i64 n)] (.str (Lib.decDigits n)):=by
 induction n using Nat.strongRecOn with
 | _ n ih =>
  refine aK Tryz.func95 UY ?_;unfold Lv ah C6;simp only[go_sem];refine⟨fun h=>?_,fun h=>?_⟩
  ·have h:n<10:=by omega
   rw[Fu h,Lib.decDigits_one h]
  ·have h:¬n<10:=by omega
   have e1:IntKind.i64.wrap ((n:Int).tdiv 10)=((n / 10:Nat):Int):=by
    rw[Int.tdiv_eq_ediv_of_nonneg (by omega),wrap_small (by omega) (by omega)];rfl
   rw[e1];refine⟨by decide,an (ih (n / 10) (by omega) (by omega)) rfl (.inl rfl) ?_⟩;simp only[go_sem];have e2:((n:Int).tmod 10)=((n % 10:Nat):Int):=by rw[Int.tmod_eq_emod_of_nonneg (by omega)];rfl
   rw[e2,Fu (by omega)];have:=Fp (n / 10) (by omega);refine⟨by decide,by simp only[maxLen];omega,?_⟩;rw[yo h]
end Go.D3
namespace Go.D3
open Go Proofs
set_option maxHeartbeats 4000000
set_option maxRecDepth 100000
theorem Zw{s:List UInt8}{at' i:Nat}(h:at'<=i)(hi:i<s.length):(s.take i).drop at'++[s.getD i 0]=(s.take (i+1)).drop at':=by
 rw[aN hi,List.take_succ_eq_append_getElem hi,List.drop_append_of_le_length (by rw[List.length_take];omega)]
theorem Ba{s:List UInt8}{i j:Nat}(h:i<=j):(s.take i).drop j=[]:=List.drop_eq_nil_of_le (by rw[List.length_take];omega)
theorem drop_cons{s:List UInt8}{i:Nat}(hi:i<s.length):s.drop i=s.getD i 0::s.drop (i+1):=by rw[List.drop_eq_getElem_cons hi,aN hi]
def ic(p s:List UInt8)(i a:Nat):List (List UInt8):=if a<=i then om ((s.take i).drop a) (aS p 0 (s.drop i)) else aS p (a-i) (s.drop i)
theorem MB{p s:List UInt8}{i:Nat}:ic p s i i=aS p 0 (s.drop i):=by unfold ic;rw[if_pos (Nat.le_refl _),Ba (Nat.le_refl _),Al rK]
theorem Mz{p s:List UInt8}{i a:Nat}(hp : 0<p.length)(hi:i<s.length)(ha:a<=i)(h:p.isPrefixOf (s.drop i)=true):ic p s i a=(s.take i).drop a::ic p s (i+1) (i+p.length):=by
 unfold ic;rw[if_pos ha,drop_cons hi,aS,if_pos (by rw[<-drop_cons hi];exact h),om,List.append_nil];congr 1;by_cases h1:i+p.length<=i+1
 ·rw[if_pos h1,Ba (by omega),Al rK,show p.length-1=0 by omega]
 ·rw[if_neg h1,show i+p.length-(i+1)=p.length-1 by omega]
theorem MA{p s:List UInt8}{i a:Nat}(hi:i<s.length)(h:a<=i->p.isPrefixOf (s.drop i)=false):ic p s i a=ic p s (i+1) a:=by
 unfold ic;by_cases ha:a<=i
 ·rw[if_pos ha,if_pos (by omega),drop_cons hi,tZ (by rw[<-drop_cons hi];exact h ha),Wv,Zw ha hi]
 ·rw[if_neg ha,drop_cons hi,show a-i=(a-i-1)+1 by omega,aS]
  by_cases h1:a<=i+1
  ·rw[if_pos h1,Ba (by omega),Al rK,show a-i-1=0 by omega]
  ·rw[if_neg h1,show a-(i+1)=a-i-1 by omega]
theorem My{p s:List UInt8}{i a:Nat}(hi:i<=s.length)(ha:a<=s.length)(h:s.length<i+p.length):ic p s i a=[s.drop a]:=by
 unfold ic;by_cases h1:a<=i
 ·rw[if_pos h1,Bp (by rw[List.length_drop];omega),om,<-List.drop_append_of_le_length (by rw[List.length_take];omega),List.take_append_drop]
 ·rw[if_neg h1,Bq (by rw[List.length_drop];omega),List.drop_drop,show i+(a-i)=a by omega,Bp (by rw[List.length_drop];omega)]
def Dg:List Nat:=[0,1,4,5,6,7]
def LG:Sl:=ah Tryz.types Tryz.f124 Dg []
theorem U8:aC Tryz.prog Tryz.f124 Dg LG 2=true:=by decide +kernel
theorem tM(s:List UInt8)(c:UInt8)(hs:s.length<=1099511627776):aw Tryz.prog 124 [.v (.str s),.v (.int .u8 c.toNat)] (dR (aS [c] 0 s)):=by
 refine aK Tryz.func124 U8 ?_;unfold LG ah Dg;simp only[go_sem];refine aE [] (fun(p:Nat×Nat×List (List UInt8))=>[(3,.o (dR p.2.2)),(4,.int .i64 p.2.1),(5,.int .i64 p.1)]) (fun p=>p.1<=s.length/\p.2.1<=p.1/\p.2.2.length<=p.1/\p.2.2++ic [c] s p.1 p.2.1=aS [c] 0 s) (fun p=>s.length-p.1) (0,0,[]) (by simp only[go_sem];rfl) ⟨Nat.zero_le _,Nat.zero_le _,Nat.zero_le _,by show ic _ s 0 0=_;exact MB⟩ rfl ?_;rintro⟨i,a,out⟩ ⟨hi,ha,ho,hr⟩;simp only at hi ha ho hr;simp only[go_sem];have hw:IntKind.i64.wrap ((i:Int)+1)=((i+1:Nat):Int):=by rw[wrap_small (by omega) (by omega)];rfl
 refine⟨fun h=>⟨h,fun h1=>⟨by omega,by omega,(i+1,i+1,out++[(s.take i).drop a]),⟨h,Nat.le_refl _,by simp;omega,?_⟩,by show s.length-(i+1)<_;omega,by rw[hw]⟩,fun h1=>⟨(i+1,a,out),⟨h,by show a<=i+1;omega,by show out.length<=i+1;omega,?_⟩,by show s.length-(i+1)<_;omega,by rw[hw]⟩⟩,fun h=>⟨by omega,by omega,?_⟩⟩
 ·rw[<-hr,Mz (by simp) h ha (by rw[rz,drop_cons h,List.head?_cons];simp at h1|-;exact UInt8.toNat_inj.1 (by omega)),List.append_assoc];rfl
 ·rw[<-hr,MA h fun _=>by rw[rz,drop_cons h,List.head?_cons];simp at h1|-;rintro rfl;exact h1 rfl]
 ·rw[<-hr,My hi (by omega) (by simp;omega),List.take_of_length_le (Nat.le_refl _)]
theorem IP{x c y:UInt8}{l:List UInt8}:[x,c,y].isPrefixOf l=(l.take 3 == [x,c,y]):=by
 match l with
 | []=>rfl
 | [a]=>simp[List.isPrefixOf]
 | [a,b]=>simp[List.isPrefixOf]
 | a::b::d::r =>
  rw[Bool.eq_iff_iff];simp[List.isPrefixOf];exact⟨fun h=>⟨h.1.symm,h.2.1.symm,h.2.2.symm⟩,fun h=>⟨h.1.symm,h.2.1.symm,h.2.2.symm⟩⟩
def Dn:List Nat:=[0,2,3,4,5]
def LP:Sl:=ah Tryz.types Tryz.f155 Dn []
theorem Vf:aC Tryz.prog Tryz.f155 Dn LP 1=true:=by decide +kernel
theorem YR(s:List UInt8)(hs:s.length<=1099511627776):aw Tryz.prog 155 [.v (.str s)] (dR (aS [32,124,32] 0 s)):=by
 refine aK Tryz.func155 Vf ?_;unfold LP ah Dn;simp only[go_sem];refine aE [] (fun(p:Nat×Nat×List (List UInt8))=>[(2,.o (dR p.2.2)),(3,.int .i64 p.2.1),(4,.int .i64 p.1)]) (fun p=>p.1<=s.length/\p.2.1<=p.1+2/\p.2.1<=s.length/\p.2.2.length<=p.1/\p.2.2++ic [32,124,32] s p.1 p.2.1=aS [32,124,32] 0 s) (fun p=>s.length-p.1) (0,0,[]) (by simp only[go_sem];rfl) ⟨Nat.zero_le _,Nat.zero_le _,Nat.zero_le _,Nat.zero_le _,by show ic _ s 0 0=_;exact MB⟩ rfl ?_;rintro⟨i,a,out⟩ ⟨hi,ha,ha2,ho,hr⟩;simp only at hi ha ha2 ho hr;simp only[go_sem];have hw:IntKind.i64.wrap ((i:Int)+1)=((i+1:Nat):Int):=by rw[wrap_small (by omega) (by omega)];rfl
 have hw3:IntKind.i64.wrap ((i:Int)+3)=((i+3:Nat):Int):=by rw[wrap_small (by omega) (by omega)];rfl
 rw[hw3];have hsd:(s.take (i+3)).drop i=(s.drop i).take 3:=by rw[List.drop_take];congr 1;omega
 refine⟨fun h=>⟨⟨by omega,h⟩,fun h1=>⟨⟨by simp at h1;omega,hi⟩,by omega,(i+1,i+3,out++[(s.take i).drop a]),⟨by show i+1<=s.length;omega,by show i+3<=i+1+2;omega,by show i+3<=s.length;omega,by simp;omega,?_⟩,by show s.length-(i+1)<_;omega,by rw[hw]⟩,fun h1=>⟨(i+1,a,out),⟨by show i+1<=s.length;omega,by show a<=i+1+2;omega,ha2,by show out.length<=i+1;omega,?_⟩,by show s.length-(i+1)<_;omega,by rw[hw]⟩⟩,fun h=>⟨⟨ha2,Nat.le_refl _⟩,by omega,?_⟩⟩
 ·rw[Int.toNat_natCast,hsd,Bool.and_eq_true,decide_eq_true_eq] at h1
  rw[<-hr,Mz (by simp) (by omega) h1.2 (by rw[IP];exact h1.1),List.append_assoc];rfl
 ·rw[Int.toNat_natCast,hsd,Bool.and_eq_false_iff,decide_eq_false_iff_not] at h1
  show out++ic _ s (i+1) a=_;rw[<-hr,MA (i:=i) (by omega) fun hh=>by rw[IP];exact h1.resolve_right (fun h2=>h2 hh)]
 ·rw[<-hr,My hi ha2 (by simp;omega),List.take_of_length_le (Nat.le_refl _)]
end Go.D3
