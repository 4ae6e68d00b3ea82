/- CONTRACTS: schemas that are read, the reference's side: paths, ParseSchema. -/
import Derived.Test.YtaknpcdnmecblaaGreatDoorGAA
import Derived.Test.YtaknpcdnmecblaaGreatDoorGAS
import Derived.Test.YtaknpcdnmecblaaGreatDoorGAC
import Derived.Laws.RangeAny
import Derived.Lib.ItoaLen
import Derived.Lib.ItoaMem
import Derived.Lib.CutLaws
import Derived.Lib.CountLaws
import Derived.Lib.Join
namespace Go.D3
open Go Proofs
set_option maxHeartbeats 4000000
set_option maxRecDepth 100000
attribute [go_sem] bytesOf.eq_1 bytesOf.eq_2
theorem FF(n:Nat)(h:n<18446744073709551616):(Lib.decDigits n).length<=20:=by rw[Lib.decDigits_length];exact Lib.nDigits_le20 n h
theorem FE{n:Nat}(h:¬n<10):Lib.decDigits n=Lib.decDigits (n / 10)++[UInt8.ofNat (48+n % 10)]:=by rw[Lib.decDigits,dif_neg h]
theorem FH{m:Nat}(h:m<10):(IntKind.u8.wrap (IntKind.i64.wrap (48+(m:Int)))).toNat=48+m:=by
 rw[wrap_small (by omega) (by omega),lA ⟨by simp[IntKind.min,IntKind.signed];omega,by simp[IntKind.max,IntKind.signed,IntKind.bits];omega⟩];omega
def C9:List Nat:=[0,2]
def Lb:Sl:=ah Tryz.types Tryz.f189 C9 []
theorem UP:aE Tryz.prog Tryz.f189 C9 Lb 1=true:=by decide +kernel
theorem YP(n:Nat)(W:n<=4611686018427387900):aA Tryz.prog 189 [.v (.int .i64 n)] (.str (Lib.decDigits n)):=by
 induction n using Nat.strongRecOn with
 | _ n V =>
  refine aQ Tryz.func189 UP ?_;unfold Lb ah C9;simp only[go_sem];refine⟨fun h=>?_,fun h=>?_⟩
  ·have h:n<10:=by omega
   rw[FH h,Lib.decDigits_one h]
  ·have h:¬n<10:=by omega
   have I:IntKind.i64.wrap ((n:Int).tdiv 10)=((n / 10:Nat):Int):=by
    rw[Int.tdiv_eq_ediv_of_nonneg (by omega),wrap_small (by omega) (by omega)];rfl
   rw[I];refine⟨by decide,aj (V (n / 10) (by omega) (by omega)) rfl (.inl rfl) ?_⟩;simp only[go_sem];have S:((n:Int).tmod 10)=((n % 10:Nat):Int):=by rw[Int.tmod_eq_emod_of_nonneg (by omega)];rfl
   rw[S,FH (by omega)];have:=FF (n / 10) (by omega);refine⟨by decide,by simp only[maxLen];omega,?_⟩;rw[FE h]
theorem ZC{s:List UInt8}{at' i:Nat}(h:at'<=i)(hi:i<s.length):(s.take i).drop at'++[s.getD i 0]=(s.take (i+1)).drop at':=by
 rw[aM hi,List.take_succ_eq_append_getElem hi,List.drop_append_of_le_length (by rw[List.length_take];omega)]
theorem Bs{s:List UInt8}{i j:Nat}(h:i<=j):(s.take i).drop j=[]:=List.drop_eq_nil_of_le (by rw[List.length_take];omega)
theorem drop_cons{s:List UInt8}{i:Nat}(hi:i<s.length):s.drop i=s.getD i 0::s.drop (i+1):=by rw[List.drop_eq_getElem_cons hi,aM hi]
def iE(p s:List UInt8)(i a:Nat):List (List UInt8):=if a<=i then oG ((s.take i).drop a) (bx p 0 (s.drop i)) else bx p (a-i) (s.drop i)
theorem MM{p s:List UInt8}{i:Nat}:iE p s i i=bx p 0 (s.drop i):=by unfold iE;rw[if_pos (Nat.le_refl _),Bs (Nat.le_refl _),AJ uJ]
theorem MK{p s:List UInt8}{i a:Nat}(hp : 0<p.length)(hi:i<s.length)(I:a<=i)(h:p.isPrefixOf (s.drop i)=true):iE p s i a=(s.take i).drop a::iE p s (i+1) (i+p.length):=by
 unfold iE;rw[if_pos I,drop_cons hi,bx,if_pos (by rw[<-drop_cons hi];exact h),oG,List.append_nil];congr 1;by_cases h1:i+p.length<=i+1
 ·rw[if_pos h1,Bs (by omega),AJ uJ,show p.length-1=0 by omega]
 ·rw[if_neg h1,show i+p.length-(i+1)=p.length-1 by omega]
theorem ML{p s:List UInt8}{i a:Nat}(hi:i<s.length)(h:a<=i->p.isPrefixOf (s.drop i)=false):iE p s i a=iE p s (i+1) a:=by
 unfold iE;by_cases ha:a<=i
 ·rw[if_pos ha,if_pos (by omega),drop_cons hi,xn (by rw[<-drop_cons hi];exact h ha),WV,ZC ha hi]
 ·rw[if_neg ha,drop_cons hi,show a-i=(a-i-1)+1 by omega,bx]
  by_cases h1:a<=i+1
  ·rw[if_pos h1,Bs (by omega),AJ uJ,show a-i-1=0 by omega]
  ·rw[if_neg h1,show a-(i+1)=a-i-1 by omega]
theorem MJ{p s:List UInt8}{i a:Nat}(hi:i<=s.length)(I:a<=s.length)(h:s.length<i+p.length):iE p s i a=[s.drop a]:=by
 unfold iE;by_cases h1:a<=i
 ·rw[if_pos h1,BI (by rw[List.length_drop];omega),oG,<-List.drop_append_of_le_length (by rw[List.length_take];omega),List.take_append_drop]
 ·rw[if_neg h1,BJ (by rw[List.length_drop];omega),List.drop_drop,show i+(a-i)=a by omega,BI (by rw[List.length_drop];omega)]
def Dm:List Nat:=[0,1,4,5,6,7]
def Lo:Sl:=ah Tryz.types Tryz.f197 Dm []
theorem U3:aE Tryz.prog Tryz.f197 Dm Lo 2=true:=by decide +kernel
theorem xa(s:List UInt8)(c:UInt8)(W:s.length<=1099511627776):aA Tryz.prog 197 [.v (.str s),.v (.int .u8 c.toNat)] (jv (bx [c] 0 s)):=by
 refine aQ Tryz.func197 U3 ?_;unfold Lo ah Dm;simp only[go_sem];refine au [] (fun(p:Nat×Nat×List (List UInt8))=>[(3,.o (jv p.2.2)),(4,.int .i64 p.2.1),(5,.int .i64 p.1)]) (fun p=>p.1<=s.length/\p.2.1<=p.1/\p.2.2.length<=p.1/\p.2.2++iE [c] s p.1 p.2.1=bx [c] 0 s) (fun p=>s.length-p.1) (0,0,[]) (by simp only[go_sem];rfl) ⟨Nat.zero_le _,Nat.zero_le _,Nat.zero_le _,by show iE _ s 0 0=_;exact MM⟩ rfl ?_;rintro⟨i,a,out⟩ ⟨hi,S,V,I⟩;simp only at hi S V I;simp only[go_sem];have hw:IntKind.i64.wrap ((i:Int)+1)=((i+1:Nat):Int):=by rw[wrap_small (by omega) (by omega)];rfl
 refine⟨fun h=>⟨h,fun h1=>⟨by omega,by omega,(i+1,i+1,out++[(s.take i).drop a]),⟨h,Nat.le_refl _,by simp;omega,?_⟩,by show s.length-(i+1)<_;omega,by rw[hw]⟩,fun h1=>⟨(i+1,a,out),⟨h,by show a<=i+1;omega,by show out.length<=i+1;omega,?_⟩,by show s.length-(i+1)<_;omega,by rw[hw]⟩⟩,fun h=>⟨by omega,by omega,?_⟩⟩
 ·rw[<-I,MK (by simp) h S (by rw[wS,drop_cons h,List.head?_cons];simp at h1|-;exact UInt8.toNat_inj.1 (by omega)),List.append_assoc];rfl
 ·rw[<-I,ML h fun _=>by rw[wS,drop_cons h,List.head?_cons];simp at h1|-;rintro rfl;exact h1 rfl]
 ·rw[<-I,MJ hi (by omega) (by simp;omega),List.take_of_length_le (Nat.le_refl _)]
theorem IG{x c y:UInt8}{l:List UInt8}:[x,c,y].isPrefixOf l=(l.take 3 == [x,c,y]):=by
 match l with
 | []=>rfl
 | [a]=>simp[List.isPrefixOf]
 | [a,b]=>simp[List.isPrefixOf]
 | a::b::d::r =>
  rw[Bool.eq_iff_iff];simp[List.isPrefixOf];exact⟨fun h=>⟨h.1.symm,h.2.1.symm,h.2.2.symm⟩,fun h=>⟨h.1.symm,h.2.1.symm,h.2.2.symm⟩⟩
def DL:List Nat:=[0,2,3,4,5]
def LS:Sl:=ah Tryz.types Tryz.f207 DL []
theorem Vr:aE Tryz.prog Tryz.f207 DL LS 1=true:=by decide +kernel
theorem Y1(s:List UInt8)(hs:s.length<=1099511627776):aA Tryz.prog 207 [.v (.str s)] (jv (bx [32,124,32] 0 s)):=by
 refine aQ Tryz.func207 Vr ?_;unfold LS ah DL;simp only[go_sem];refine au [] (fun(p:Nat×Nat×List (List UInt8))=>[(2,.o (jv p.2.2)),(3,.int .i64 p.2.1),(4,.int .i64 p.1)]) (fun p=>p.1<=s.length/\p.2.1<=p.1+2/\p.2.1<=s.length/\p.2.2.length<=p.1/\p.2.2++iE [32,124,32] s p.1 p.2.1=bx [32,124,32] 0 s) (fun p=>s.length-p.1) (0,0,[]) (by simp only[go_sem];rfl) ⟨Nat.zero_le _,Nat.zero_le _,Nat.zero_le _,Nat.zero_le _,by show iE _ s 0 0=_;exact MM⟩ rfl ?_;rintro⟨i,a,out⟩ ⟨hi,Z,I,ho,V⟩;simp only at hi Z I ho V;simp only[go_sem];have hw:IntKind.i64.wrap ((i:Int)+1)=((i+1:Nat):Int):=by rw[wrap_small (by omega) (by omega)];rfl
 have W:IntKind.i64.wrap ((i:Int)+3)=((i+3:Nat):Int):=by rw[wrap_small (by omega) (by omega)];rfl
 rw[W];have S:(s.take (i+3)).drop i=(s.drop i).take 3:=by rw[List.drop_take];congr 1;omega
 refine⟨fun h=>⟨⟨by omega,h⟩,fun h1=>⟨⟨by simp at h1;omega,hi⟩,by omega,(i+1,i+3,out++[(s.take i).drop a]),⟨by show i+1<=s.length;omega,by show i+3<=i+1+2;omega,by show i+3<=s.length;omega,by simp;omega,?_⟩,by show s.length-(i+1)<_;omega,by rw[hw]⟩,fun h1=>⟨(i+1,a,out),⟨by show i+1<=s.length;omega,by show a<=i+1+2;omega,I,by show out.length<=i+1;omega,?_⟩,by show s.length-(i+1)<_;omega,by rw[hw]⟩⟩,fun h=>⟨⟨I,Nat.le_refl _⟩,by omega,?_⟩⟩
 ·rw[Int.toNat_natCast,S,Bool.and_eq_true,decide_eq_true_eq] at h1
  rw[<-V,MK (by simp) (by omega) h1.2 (by rw[IG];exact h1.1),List.append_assoc];rfl
 ·rw[Int.toNat_natCast,S,Bool.and_eq_false_iff,decide_eq_false_iff_not] at h1
  show out++iE _ s (i+1) a=_;rw[<-V,ML (i:=i) (by omega) fun hh=>by rw[IG];exact h1.resolve_right (fun Y=>Y hh)]
 ·rw[<-V,MJ hi I (by simp;omega),List.take_of_length_le (Nat.le_refl _)]
def eQ(b:UInt8):Bool:=decide (48<=b.toNat)&&decide (b.toNat<=57)
def kj(n:Nat)(s:List UInt8):Nat:=s.foldl (fun n b=>10*n+(b.toNat-48)) n
def eW(I:Nat)(s:List UInt8):Option Nat:=if(!s.isEmpty&&decide (s.length<=I)&&!(decide (1<s.length)&&s.getD 0 0 == 48)&&s.all eQ)=true then some (kj 0 s) else none
theorem Ng{b:UInt8}{s:List UInt8}{n:Nat}:kj n (s++[b])=10*kj n s+(b.toNat-48):=by unfold kj;rw[List.foldl_append,List.foldl_cons,List.foldl_nil]
theorem Nf{b:UInt8}{s:List UInt8}{n:Nat}:kj n (b::s)=kj (10*n+(b.toNat-48)) s:=by unfold kj;rw[List.foldl_cons]
theorem abb{s:List UInt8}(h:s.all eQ=true)(n:Nat):kj n s<(n+1)*10 ^ s.length:=by
 induction s generalizing n with
 | nil=>rw[List.length_nil,Nat.pow_zero];exact Nat.lt_of_lt_of_eq (Nat.lt_succ_self n) (Nat.mul_one _).symm
 | cons b s I =>
  simp only[List.all_cons,Bool.and_eq_true,eQ,decide_eq_true_eq] at h;have:=I h.2 (10*n+(b.toNat-48));rw[Nf,List.length_cons,Nat.pow_succ,Nat.mul_comm (10 ^ s.length),<-Nat.mul_assoc];exact Nat.lt_of_lt_of_le this (Nat.mul_le_mul_right _ (by omega))
theorem MY{s:List UInt8}{i:Nat}(h:i<s.length):s.take (i+1)=s.take i++[s.getD i 0]:=by rw[aM h,List.take_succ_eq_append_getElem h]
theorem N4{s:List UInt8}{i:Nat}(h:i<s.length)(I:(s.take i).all eQ=true)(S:eQ (s.getD i 0)=true):(s.take (i+1)).all eQ=true:=by
 rw[MY h,List.all_append,I];simpa using S
theorem Tp{I:Nat}{s:List UInt8}{i:Nat}(h:i<s.length)(S:eQ (s.getD i 0)=false):eW I s=none:=by
 unfold eW;rw[if_neg];intro V;simp only[Bool.and_eq_true] at V;have:=List.all_eq_true.1 V.2 _ (List.getElem_mem h);rw[aM h] at S;rw[S] at this;cases this
theorem HZ{I:Nat}{s:List UInt8}(V:s≠[])(h1:s.length<=I)(W:¬(1<s.length/\s.getD 0 0=48))(S:s.all eQ=true):eW I s=some (kj 0 s):=by
 unfold eW;rw[if_pos];rw[S];simp only[Bool.and_true,Bool.and_eq_true,Bool.not_eq_true',decide_eq_true_eq,Bool.and_eq_false_iff,decide_eq_false_iff_not,beq_eq_false_iff_ne];exact⟨⟨by cases s<;>simp_all,h1⟩,by by_cases h : 1<s.length<;>simp_all⟩
theorem Tq{I:Nat}{s:List UInt8}(h:s=[]\/I<s.length\/(1<s.length/\s.getD 0 0=48)):eW I s=none:=by
 unfold eW;rw[if_neg];intro V;simp only[Bool.and_eq_true,Bool.not_eq_true',decide_eq_true_eq,Bool.and_eq_false_iff,decide_eq_false_iff_not,beq_eq_false_iff_ne] at V;rcases h with rfl | h | ⟨h,W⟩
 ·simp at V
 ·omega
 ·rcases V.1.2 with S | S
  ·exact S h
  ·exact S W
def pd:Option Nat->D
 | some n=>.int .i64 n
 | none=>.int .i64 (-1)
theorem WR{k:Nat}(h:k<=9) : 10 ^ k<=1000000000:=Nat.pow_le_pow_right (n:=10) (by omega) h
theorem PF{b:UInt8}(h:eQ b=true):IntKind.u8.wrap ((b.toNat:Int)-48)=((b.toNat-48:Nat):Int):=by
 simp only[eQ,Bool.and_eq_true,decide_eq_true_eq] at h;rw[lA ⟨by simp[IntKind.min,IntKind.signed];omega,by simp[IntKind.max,IntKind.signed,IntKind.bits];omega⟩];omega
def Dn:List Nat:=[0,2,3,4]
def Lq:Sl:=ah Tryz.types Tryz.f209 Dn []
theorem U4:aE Tryz.prog Tryz.f209 Dn Lq 1=true:=by decide +kernel
theorem uz(s:List UInt8):aA Tryz.prog 209 [.v (.str s)] (pd (eW 9 s)):=by
 refine aQ Tryz.func209 U4 ?_;unfold Lq ah Dn;simp only[go_sem];refine⟨fun h=>by simpa using h,fun h=>⟨h,by decide,by simp only[Bool.and_eq_true,decide_eq_true_eq] at h;omega⟩,fun h=>by simp at h|-;exact⟨h,fun W=>⟨h,W⟩⟩,(fun h=>by simp only[Bool.or_eq_false_iff,Bool.and_eq_true,Bool.not_eq_true'] at h|-;exact h),fun h=>?_,fun h=>?_⟩
 ·rw[Tq];rfl
  simp only[Bool.or_eq_true,Bool.and_eq_true,decide_eq_true_eq,beq_iff_eq] at h;rcases h with(h | h) | ⟨h,h'⟩
  ·exact .inl (List.length_eq_zero_iff.1 (by omega))
  ·exact .inr (.inl (by omega))
  ·exact .inr (.inr ⟨by omega,UInt8.toNat_inj.1 (by show _=48;omega)⟩)
 ·simp only[Bool.or_eq_false_iff,beq_eq_false_iff_ne,decide_eq_false_iff_not,Bool.and_eq_false_iff] at h
  obtain⟨⟨V,h9⟩,I⟩:=h;refine au [] (fun(i:Nat)=>[(2,.int .i64 (kj 0 (s.take i))),(3,.int .i64 i)]) (fun i=>i<=s.length/\(s.take i).all eQ=true) (fun i=>s.length-i) 0 (by simp only[go_sem];rfl) ⟨Nat.zero_le _,rfl⟩ rfl ?_;rintro i ⟨hi,S⟩;simp only[go_sem];refine⟨fun h=>⟨h,fun h1=>⟨h1,h⟩,fun h1=>by simpa using h1,fun h1=>?_,fun h1=>⟨h,i+1,⟨h,N4 h S ?_⟩,by omega,?_⟩⟩,fun h=>?_⟩
  ·rw[Tp h];rfl
   simp only[Bool.or_eq_true,decide_eq_true_eq] at h1;simp only[eQ,Bool.and_eq_false_iff,decide_eq_false_iff_not];omega
  ·simp only[Bool.or_eq_false_iff,decide_eq_false_iff_not] at h1
   simp only[eQ,Bool.and_eq_true,decide_eq_true_eq];omega
  ·have Y:eQ (s.getD i 0)=true:=by
    simp only[Bool.or_eq_false_iff,decide_eq_false_iff_not] at h1;simp only[eQ,Bool.and_eq_true,decide_eq_true_eq];omega
   have hv:=abb S 0;have hp:=WR (k:=(s.take i).length) (by rw[List.length_take];omega);have hb:=(s.getD i 0).toNat_lt;rw[PF Y,MY h,Ng,wrap_small (n:=(kj 0 (s.take i):Int)*10) (by omega) (by omega),wrap_small (n:=(((s.getD i 0).toNat-48:Nat):Int)) (by omega) (by omega),wrap_small (by omega) (by omega),wrap_small (n:=(i:Int)+1) (by omega) (by omega)];congr 4
   all_goals omega
  ·rw[List.take_of_length_le (by omega)] at S|-
   rw[HZ (by rintro rfl;simp at V) (by omega) (fun Z=>by rw[Z.2] at I;exact I.elim (fun I=>by omega) fun I=>I (by decide)) S];rfl
theorem FG{m:Nat}(h:m<10):eQ (UInt8.ofNat (48+m))=true/\(UInt8.ofNat (48+m)).toNat-48=m:=by
 have:(UInt8.ofNat (48+m)).toNat=48+m:=by rw[UInt8.toNat_ofNat',Nat.mod_eq_of_lt (by omega)]
 unfold eQ;rw[this];exact⟨by simp only[Bool.and_eq_true,decide_eq_true_eq];omega,by omega⟩
theorem FD(n:Nat):(Lib.decDigits n).all eQ=true/\kj 0 (Lib.decDigits n)=n/\Lib.decDigits n≠[]/\(0<n->(Lib.decDigits n).getD 0 0≠48):=by
 induction n using Nat.strongRecOn with
 | _ n W =>
  by_cases h:n<10
  ·rw[Lib.decDigits_one h]
   obtain⟨h1,I⟩:=FG h;refine⟨by rw[List.all_cons,h1];rfl,by rw[Nf,I,Nat.mul_zero,Nat.zero_add];rfl,by simp,fun Y S=>?_⟩;have S:UInt8.ofNat (48+n)=48:=S;rw[S] at I;have:(48:UInt8).toNat-48=0:=by decide
   omega
  ·rw[FE h]
   obtain⟨h1,I⟩:=FG (show n % 10<10 by omega);obtain⟨i1,i2,i3,i4⟩:=W (n / 10) (by omega);refine⟨by rw[List.all_append,i1,List.all_cons,h1];rfl,by rw[Ng,i2,I];omega,by simp,fun _=>?_⟩;have V : 0<(Lib.decDigits (n / 10)).length:=List.length_pos_iff.2 i3;rw[List.getD_eq_getElem?_getD,List.getElem?_append_left V,<-List.getD_eq_getElem?_getD];exact i4 (by omega)
theorem PE{n I:Nat}(h:(Lib.decDigits n).length<=I):eW I (Lib.decDigits n)=some n:=by
 obtain⟨h1,V,W,Y⟩:=FD n;rw[HZ W h (fun S=>?_) h1,V];by_cases h0:n<10
 ·rw[Lib.decDigits_one h0] at S;simp at S
 ·exact Y (by omega) S.2
theorem OS{s:List UInt8}:sZ s=bytes (s.map fun b=>(b.toNat:Int)):=by unfold sZ bytes ae;rw[List.map_map];rfl
attribute [go_sem] OS
theorem pQ{n:Int}(h : 0<=n)(h1:n<=4611686018427387900):(Lib.itoa n).length<=20:=by
 obtain⟨m,rfl⟩:∃m:Nat,n=m:=⟨n.toNat,by omega⟩;rw[Lib.itoa_nonneg];exact FF m (by omega)
theorem w4{n:Int}(h : 0<=n)(h1:n<=4611686018427387900):aA Tryz.prog 189 [.v (.int .i64 n)] (.str (Lib.itoa n)):=by
 obtain⟨m,rfl⟩:∃m:Nat,n=m:=⟨n.toNat,by omega⟩;rw[Lib.itoa_nonneg];exact YP m (by omega)
def mF(e:Int):UInt8:=UInt8.ofNat (97+e.toNat)
def U.bK(p:U):List UInt8:=64::(Lib.itoa p.st++p.ed.map mF)
structure jD(p:U):Prop where
 st : 0<=p.st/\p.st<=8
 len:p.ed.length<=6
 ed:∀i,i<p.ed.length->0<=p.ed.getD i 0/\p.ed.getD i 0<8
theorem jD.xw{p:U}(h:jD p):p.bK.length<=40:=by
 have:=pQ h.st.1 (by have:=h.st;omega);have:=h.len;unfold U.bK;simp only[List.length_cons,List.length_append,List.length_map];omega
theorem aag{e:Int}(h : 0<=e/\e<8):(([97,98,99,100,101,102,103,104]:List UInt8).take (e+1).toNat).drop e.toNat=[mF e]:=by
 obtain⟨n,rfl⟩:∃n:Nat,e=n:=⟨e.toNat,by omega⟩;rw[show((n:Int)+1).toNat=n+1 by omega,Int.toNat_natCast];unfold mF;rw[Int.toNat_natCast];have:n<8:=by omega
 match n,this with
 | 0,_ | 1,_ | 2,_ | 3,_ | 4,_ | 5,_ | 6,_ | 7,_=>rfl
 | n+8,h=>omega
def D6:List Nat:=[0,2,1,3,4]
def Me:Sl:=ah Tryz.types Tryz.f255 D6 []
theorem VN:aE Tryz.prog Tryz.f255 D6 Me 1=true:=by decide +kernel
theorem JL(p:U)(h:jD p):aA Tryz.prog 255 [.v (U.d p)] (.str p.bK):=by
 have hlen:=h.len;have I:=pQ h.st.1 (by have:=h.st;omega);refine aQ Tryz.func255 VN ?_;unfold Me ah D6;simp only[go_sem];refine aj (w4 h.st.1 (by have:=h.st;omega)) rfl (.inl rfl) ?_;simp only[go_sem];refine⟨by simp only[maxLen];omega,?_⟩;refine au [] (fun(i:Nat)=>[(3,.str (64::(Lib.itoa p.st++(p.ed.take i).map mF))),(4,.int .i64 i)]) (fun i=>i<=p.ed.length) (fun i=>p.ed.length-i) 0 (by simp only[go_sem];rfl) (Nat.zero_le _) (by simp[oS,fa]) ?_;intro i hi;simp only[go_sem];refine⟨fun h1=>?_,fun h1=>by rw[List.take_of_length_le (by omega)];rfl⟩;have he:=h.ed i h1;rw[wrap_small (n:=p.ed.getD i 0+1) (by omega) (by omega)];rw[aag he];refine⟨h1,h1,by omega,by simp only[maxLen,List.length_append,List.length_map,List.length_take,List.length_cons,List.length_nil];omega,i+1,h1,by omega,?_⟩;rw[wrap_small (by omega) (by omega),b7 h1 0,List.map_append,List.append_assoc];rfl
def gH(s:List UInt8):List (List UInt8):=if s=[45] then[] else bx [32] 0 s
def eC(l:List (List UInt8)):List UInt8:=if l=[] then[45] else Lib.join l [32]
def aa.mD(s:aa)(i:Nat):List UInt8:=Lib.itoa (s.fr.getD i 0)++62::Lib.itoa (s.to.getD i 0)
def aa.mG(s:aa)(i:Nat):List UInt8:=(s.lf.getD i U.zero).bK++61::(s.rt.getD i U.zero).bK
def aa.dS(s:aa)(n:Nat):List (List UInt8):=(List.range n).map s.mD
def aa.dy(s:aa)(n:Nat):List (List UInt8):=(List.range n).map s.mG
def aa.bK(s:aa):List UInt8:=Lib.join [Lib.itoa s.nd,eC (s.dS s.fr.length),eC (s.dy s.lf.length)] [32,124,32]
structure il(s:aa):Prop where
 nd : 0<=s.nd/\s.nd<=8
 f8:s.fr.length<=8
 to:s.to.length=s.fr.length
 ed:∀i,i<s.fr.length->(0<=s.fr.getD i 0/\s.fr.getD i 0<8)/\0<=s.to.getD i 0/\s.to.getD i 0<8
 l8:s.lf.length<=8
 rt:s.rt.length=s.lf.length
 eq:∀i,i<s.lf.length->jD (s.lf.getD i U.zero)/\jD (s.rt.getD i U.zero)
theorem Gl{fr to:List Int}:∀{l:List Int}{x y:Int},bp fr to x l=some y->∀i,i<l.length->0<=l.getD i 0/\l.getD i 0<fr.length
 | [],_,_,_,i,hi=>by simp at hi
 | e::r,x,y,h,i,hi=>by
  rw[bp] at h;split at h
  ·rename_i I
   simp only[Bool.and_eq_true,bq,decide_eq_true_eq] at I;cases i with
   | zero=>exact⟨I.1.1,by show e<_;omega⟩
   | succ i=>exact Gl h i (by simpa using hi)
  ·cases h
theorem gD{s:aa}(h:s.ok=true):il s:=by
 obtain⟨h1,W,Y⟩:=eX h;have I:=ic h1;have h8:=I.n8
 have hp:∀{p:U}{y:Int},s.aO p=some y->jD p:=fun {p y} Z=>by
  obtain⟨a1,a2,a3⟩:=pE Z;exact⟨by omega,a2,fun i hi=>by have:=Gl a3 i hi;have:=I.f8;omega⟩
 refine⟨⟨I.n0,I.n8⟩,I.f8,I.to,fun i hi=>?_,W,Y,fun i hi=>?_⟩
 ·have:=db I.fr hi
  have:=db I.BW (show i<s.to.length by rw[I.to];exact hi);omega
 ·obtain⟨y,S,V,_⟩:=ok_eq h hi
  exact⟨hp S,hp V⟩
section
variable{s:aa}(h:il s)
include h
theorem il.PO{i:Nat}(hi:i<s.fr.length):(s.mD i).length<=41:=by
 have:=h.ed i hi;have:=pQ (n:=s.fr.getD i 0) (by omega) (by omega);have:=pQ (n:=s.to.getD i 0) (by omega) (by omega);unfold aa.mD;simp only[List.length_append,List.length_cons];omega
theorem il.eql{i:Nat}(hi:i<s.lf.length):(s.mG i).length<=81:=by
 have:=(h.eq i hi).1.xw;have:=(h.eq i hi).2.xw;unfold aa.mG;simp only[List.length_append,List.length_cons];omega
end
theorem PM{s:aa}{i:Nat}:s.dS (i+1)=s.dS i++[s.mD i]:=by unfold aa.dS;rw[List.range_succ,List.map_append];rfl
theorem PT{s:aa}{i:Nat}:s.dy (i+1)=s.dy i++[s.mG i]:=by unfold aa.dy;rw[List.range_succ,List.map_append];rfl
theorem FO{s:aa}(h:il s){n:Nat}(S:n<=s.fr.length):∀x∈s.dS n,x.length<=41:=fun x I=>by
 obtain⟨i,hi,rfl⟩:=List.mem_map.1 I;exact h.PO (by have:=List.mem_range.1 hi;omega)
theorem FY{s:aa}(h:il s){n:Nat}(S:n<=s.lf.length):∀x∈s.dy n,x.length<=81:=fun x I=>by
 obtain⟨i,hi,rfl⟩:=List.mem_map.1 I;exact h.eql (by have:=List.mem_range.1 hi;omega)
theorem ri{s:aa}{n:Nat}:(s.dS n).length=n:=by simp[aa.dS]
theorem tf{s:aa}{n:Nat}:(s.dy n).length=n:=by simp[aa.dy]
def jH(l:List (List UInt8)):List UInt8:=(l.map fun x=>32::x).flatten
theorem O7{l:List (List UInt8)}:jH l=if l=[] then[] else 32::Lib.join l [32]:=by
 cases l with
 | nil=>rfl
 | cons x r=>rw[if_neg (by simp),Lib.join_cons];rfl
theorem Ff{l:List (List UInt8)}{x:List UInt8}:jH (l++[x])=jH l++32::x:=by unfold jH;simp
theorem vo{l:List (List UInt8)}{b:Nat}(h:∀x∈l,x.length<=b):(jH l).length<=l.length*(b+1):=by
 induction l with
 | nil=>simp[jH]
 | cons x l S =>
  have h1:=S fun y I=>h y (List.mem_cons_of_mem _ I)
  have V:=h x List.mem_cons_self;have e:jH (x::l)=(32::x)++jH l:=rfl;rw[e,List.length_append,List.length_cons,List.length_cons,Nat.succ_mul];omega
theorem Fe{l:List (List UInt8)}:(if jH l=[] then[32,45] else jH l)=32::eC l:=by
 rw[O7];unfold eC;by_cases h:l=[]
 ·subst h;rfl
 ·rw[if_neg h,if_neg h,if_neg (by simp)]
theorem aa7{s:aa}:s.bK=Lib.itoa s.nd++[32,124]++32::eC (s.dS s.fr.length)++[32,124]++32::eC (s.dy s.lf.length):=by
 unfold aa.bK;rw[tA,tA,Lib.join_one];simp
def D9:List Nat:=[0,2,1,3,4,5,6]
def Mh:Sl:=ah Tryz.types Tryz.f211 D9 []
theorem VQ:aE Tryz.prog Tryz.f211 D9 Mh 1=true:=by decide +kernel
theorem Zk(s:aa)(h:il s):aA Tryz.prog 211 [.v (aa.d s)] (.str s.bK):=by
 have ab:=h.f8;have ad:=h.l8;have ao:=h.to;have ag:=h.rt;refine aQ Tryz.func211 VQ ?_;unfold Mh ah D9;simp only[go_sem];refine au [] (fun(i:Nat)=>[(3,.str (jH (s.dS i))),(5,.int .i64 i)]) (fun i=>i<=s.fr.length) (fun i=>s.fr.length-i) 0 (by simp only[go_sem];rfl) (Nat.zero_le _) rfl ?_;intro i hi;simp only[go_sem];have hc:=vo (FO h hi);rw[ri] at hc;refine⟨fun h1=>?_,fun h1=>?_⟩
 ·obtain⟨⟨a0,a1⟩,V,b1⟩:=h.ed i h1
  have l1:=pQ a0 (by omega);have l2:=pQ V (by omega);refine⟨by simp only[maxLen];omega,h1,aj (w4 a0 (by omega)) rfl (.inl rfl) ?_⟩;simp only[go_sem];refine⟨by rw[List.length_append];simp only[maxLen,List.length_cons,List.length_nil];omega,by simp only[List.length_append,maxLen,List.length_cons,List.length_nil];omega,by omega,aj (w4 V (by omega)) rfl (.inl rfl) ?_⟩;simp only[go_sem];refine⟨by simp only[List.length_append,maxLen,List.length_cons,List.length_nil];omega,i+1,h1,by omega,?_⟩;rw[wrap_small (by omega) (by omega),PM,Ff];unfold aa.mD;simp only[List.append_assoc,List.cons_append,List.nil_append];rfl
 ·rw[show i=s.fr.length by omega]
  refine au [] (fun(i:Nat)=>[(4,.str (jH (s.dy i))),(6,.int .i64 i)]) (fun i=>i<=s.lf.length) (fun i=>s.lf.length-i) 0 (by simp only[go_sem];rfl) (Nat.zero_le _) rfl ?_;intro i hi;simp only[go_sem];have S:=vo (FY h hi);rw[tf] at S;refine⟨fun h1=>?_,fun h1=>?_⟩
  ·obtain⟨W,Y⟩:=h.eq i h1
   have l1:=W.xw;have l2:=Y.xw;refine⟨by simp only[maxLen];omega,h1,aj (JL _ W) rfl (.inl rfl) ?_⟩;simp only[go_sem];refine⟨by rw[List.length_append];simp only[maxLen,List.length_cons,List.length_nil];omega,by simp only[List.length_append,maxLen,List.length_cons,List.length_nil];omega,by omega,aj (JL _ Y) rfl (.inl rfl) ?_⟩;simp only[go_sem];refine⟨by simp only[List.length_append,maxLen,List.length_cons,List.length_nil];omega,i+1,h1,by omega,?_⟩;rw[wrap_small (by omega) (by omega),PT,Ff];unfold aa.mG;simp only[List.append_assoc,List.cons_append,List.nil_append];rfl
  ·rw[show i=s.lf.length by omega]
   have Z:=vo (FO h (Nat.le_refl _));have e2:=vo (FY h (Nat.le_refl _));rw[ri] at Z;rw[tf] at e2;have l0:=pQ h.nd.1 (by have:=h.nd;omega);have q1:=Fe (l:=s.dS s.fr.length);have q2:=Fe (l:=s.dy s.lf.length);rw[aa7,<-q1,<-q2];refine⟨fun h1=>⟨fun I=>?_,fun I=>?_⟩,fun h1=>⟨fun I=>?_,fun I=>?_⟩⟩
   all_goals
    refine aj (w4 h.nd.1 (by have:=h.nd;omega)) rfl (.inl rfl) ?_;simp only[go_sem]
   ·rw[if_pos h1,if_pos I]
    exact⟨by simp only[maxLen];omega,by simp only[List.length_append,maxLen,List.length_cons,List.length_nil];omega,by simp only[List.length_append,maxLen,List.length_cons,List.length_nil];omega,by simp only[List.length_append,maxLen,List.length_cons,List.length_nil];omega,rfl⟩
   ·rw[if_pos h1,if_neg (by simpa using I)]
    exact⟨by simp only[maxLen];omega,by simp only[List.length_append,maxLen,List.length_cons,List.length_nil];omega,by simp only[List.length_append,maxLen,List.length_cons,List.length_nil];omega,by simp only[List.length_append,maxLen,List.length_cons,List.length_nil];omega,rfl⟩
   ·rw[if_neg (by simpa using h1),if_pos I]
    exact⟨by simp only[maxLen];omega,by simp only[List.length_append,maxLen,List.length_cons,List.length_nil];omega,by simp only[List.length_append,maxLen,List.length_cons,List.length_nil];omega,by simp only[List.length_append,maxLen,List.length_cons,List.length_nil];omega,rfl⟩
   ·rw[if_neg (by simpa using h1),if_neg (by simpa using I)]
    exact⟨by simp only[maxLen];omega,by simp only[List.length_append,maxLen,List.length_cons,List.length_nil];omega,by simp only[List.length_append,maxLen,List.length_cons,List.length_nil];omega,by simp only[List.length_append,maxLen,List.length_cons,List.length_nil];omega,rfl⟩
theorem QZ{n:Int}(h : 0<=n):(Lib.itoa n).all eQ=true/\Lib.itoa n≠[]:=by
 obtain⟨m,rfl⟩:∃m:Nat,n=m:=⟨n.toNat,by omega⟩;rw[Lib.itoa_nonneg];obtain⟨h1,_,I,_⟩:=FD m;exact⟨h1,I⟩
theorem zu{n:Int}{I:Nat}(h : 0<=n)(S:(Lib.itoa n).length<=I):eW I (Lib.itoa n)=some n.toNat:=by
 obtain⟨m,rfl⟩:∃m:Nat,n=m:=⟨n.toNat,by omega⟩;rw[Lib.itoa_nonneg] at S|-
 exact PE S
theorem zw{n:Int}(h : 0<=n)(h1:n<10):(Lib.itoa n).length=1:=by
 obtain⟨m,rfl⟩:∃m:Nat,n=m:=⟨n.toNat,by omega⟩;rw[Lib.itoa_nonneg,Lib.decDigits_one (by omega)];rfl
theorem FP{e:Int}(h : 0<=e/\e<8):((mF e).toNat:Int)=97+e:=by
 unfold mF;rw[UInt8.toNat_ofNat',Nat.mod_eq_of_lt (by omega)];omega
def wB(b:UInt8):Bool:=decide (48<=b.toNat)&&decide (b.toNat<=64) || decide (97<=b.toNat)&&decide (b.toNat<=104)
theorem xD{b:UInt8}(h:wB b=true):b≠32/\b≠124/\b≠45:=by
 unfold wB at h;simp only[Bool.or_eq_true,Bool.and_eq_true,decide_eq_true_eq] at h;refine⟨?_,?_,?_⟩<;>(rintro rfl;revert h;decide)
theorem vu{b:UInt8}(h:eQ b=true):wB b=true:=by
 unfold wB;simp only[eQ,Bool.and_eq_true,decide_eq_true_eq] at h;simp only[Bool.or_eq_true,Bool.and_eq_true,decide_eq_true_eq];omega
theorem rG{n:Int}{b:UInt8}(h : 0<=n)(I:b∈Lib.itoa n):eQ b=true:=List.all_eq_true.1 (QZ h).1 b I
theorem xA{p:U}(h:jD p){b:UInt8}(I:b∈p.bK):wB b=true/\b≠61:=by
 unfold U.bK at I;rcases List.mem_cons.1 I with rfl | I
 ·decide
 ·rcases List.mem_append.1 I with I | I
  ·have:=rG h.st.1 I
   refine⟨vu this,?_⟩;rintro rfl;revert this;decide
  ·obtain⟨e,he,rfl⟩:=List.mem_map.1 I
   obtain⟨j,S,rfl⟩:=List.getElem_of_mem he;have:=h.ed j S;rw[aM S] at this;have V:=FP this;refine⟨by unfold wB;simp only[Bool.or_eq_true,Bool.and_eq_true,decide_eq_true_eq];omega,fun W=>?_⟩;rw[W] at V;have:(61:UInt8).toNat=61:=rfl;omega
section
variable{s:aa}(h:il s)
include h
theorem il.FR{x:List UInt8}(S:x∈s.dS s.fr.length):∀b∈x,wB b=true:=by
 obtain⟨i,hi,rfl⟩:=List.mem_map.1 S;obtain⟨a,b⟩:=h.ed i (List.mem_range.1 hi);intro c I;rcases List.mem_append.1 I with I | I
 ·exact vu (rG a.1 I)
 ·rcases List.mem_cons.1 I with rfl | I
  ·decide
  ·exact vu (rG b.1 I)
theorem il.FZ{x:List UInt8}(S:x∈s.dy s.lf.length):∀b∈x,wB b=true:=by
 obtain⟨i,hi,rfl⟩:=List.mem_map.1 S;obtain⟨a,b⟩:=h.eq i (List.mem_range.1 hi);intro c I;rcases List.mem_append.1 I with I | I
 ·exact(xA a I).1
 ·rcases List.mem_cons.1 I with rfl | I
  ·decide
  ·exact(xA b I).1
end
theorem GX{l:List (List UInt8)}{c b:UInt8}(h:b∈Lib.join l [c]):b=c\/∃x∈l,b∈x:=by
 cases l with
 | nil=>rw[Lib.join_nil] at h;cases h
 | cons x r =>
  rw[Lib.join_cons] at h;rcases List.mem_append.1 h with h | h
  ·exact .inr ⟨x,by simp,h⟩
  ·unfold Lib.joinTail at h
   obtain⟨y,S,I⟩:=List.mem_flatten.1 h;obtain⟨z,V,rfl⟩:=List.mem_map.1 S;rcases List.mem_append.1 I with I | I
   ·exact .inl (by simpa using I)
   ·exact .inr ⟨z,by simp[V],I⟩
theorem Iu{l:List (List UInt8)}(S:∀x∈l,∀b∈x,wB b=true):(124:UInt8) ∉ eC l:=by
 unfold eC;split
 ·decide
 ·intro h
  rcases GX h with h | ⟨x,V,I⟩
  ·cases h
  ·exact(xD (S x V _ I)).2.1 rfl
theorem Nn{l:List (List UInt8)}(V:∀x∈l,∀b∈x,wB b=true)(Y:∀x∈l,x≠[]):gH (eC l)=l:=by
 unfold eC;by_cases h:l=[]
 ·subst h;rfl
 ·rw[if_neg h]
  unfold gH;rw[if_neg,MN h fun x S I=>(xD (V x S _ I)).1 rfl];intro W;have:(45:UInt8)∈Lib.join l [32]:=by rw[W];simp
  rcases GX this with h | ⟨x,S,I⟩
  ·cases h
  ·exact(xD (V x S _ I)).2.2 rfl
theorem Wv{s:aa}(h:il s):bx [32,124,32] 0 s.bK=[Lib.itoa s.nd,eC (s.dS s.fr.length),eC (s.dy s.lf.length)]:=by
 unfold aa.bK
 rw[tA,tA,Lib.join_one,List.append_assoc,<-List.append_assoc,MI (by decide) fun S=>(xD (vu (rG h.nd.1 S))).2.1 rfl,
  MI (by decide) (Iu fun x I=>h.FR I),aav (Iu fun x I=>h.FZ I)]
theorem abj{s:aa}(h:il s):gH (eC (s.dS s.fr.length))=s.dS s.fr.length:=Nn (fun x I=>h.FR I) fun x I=>by
 obtain⟨i,_,rfl⟩:=List.mem_map.1 I;unfold aa.mD;simp
theorem abk{s:aa}(h:il s):gH (eC (s.dy s.lf.length))=s.dy s.lf.length:=Nn (fun x I=>h.FZ I) fun x I=>by
 obtain⟨i,_,rfl⟩:=List.mem_map.1 I;unfold aa.mG;simp
theorem PL{s:aa}{n i:Nat}(h:i<n):(s.dS n).getD i []=s.mD i:=by
 unfold aa.dS;rw[List.getD_eq_getElem?_getD,List.getElem?_map,List.getElem?_range h];rfl
theorem PS{s:aa}{n i:Nat}(h:i<n):(s.dy n).getD i []=s.mG i:=by
 unfold aa.dy;rw[List.getD_eq_getElem?_getD,List.getElem?_map,List.getElem?_range h];rfl
noncomputable def j8(t:List UInt8):Option aa:=by
 classical
 exact if h:∃q:aa,q.ok=true/\t=q.bK then some h.choose else none
theorem W1{t:List UInt8}(h:∀q:aa,q.ok=true->t≠q.bK):j8 t=none:=by
 unfold j8;rw[dif_neg];rintro⟨q,h1,I⟩;exact h q h1 I
theorem W2{t:List UInt8}{s:aa}(h:s.ok=true)(S:t=s.bK)(hu:∀q:aa,q.ok=true->t=q.bK->s=q):j8 t=some s:=by
 unfold j8;have I:∃q:aa,q.ok=true/\t=q.bK:=⟨s,h,S⟩;rw[dif_pos I,hu _ I.choose_spec.1 I.choose_spec.2]
theorem IH{t:List UInt8}{s:aa}(h:j8 t=some s):s.ok=true/\t=s.bK:=by
 unfold j8 at h;split at h
 ·rename_i I
  injection h with h
  rw[<-h];exact I.choose_spec
 ·cases h
def uu:Option aa->D
 | some s=>.av [aa.d s,.int .i64 0]
 | none=>.av [aa.d aa.zero,.int .i64 6]
theorem WZ(o:Option aa):(uu o).bA=true:=by cases o<;>simp only[uu,D.bA,eR,H4,Bool.and_self]
end Go.D3
namespace Go.D3
open Go
set_option maxRecDepth 100000
def Hb:List aa:=[⟨1,[0],[0],[⟨0,[0,0]⟩],[⟨0,[]⟩]⟩,⟨1,[0],[0],[⟨0,[0,0]⟩],[⟨0,[0]⟩]⟩,⟨2,[0],[1],[],[]⟩,⟨3,[0,1],[1,2],[],[]⟩,⟨3,[0,1,0],[1,2,2],[⟨0,[0,1]⟩],[⟨0,[2]⟩]⟩,⟨2,[0,1],[1,0],[⟨0,[0,1]⟩],[⟨0,[]⟩]⟩,⟨2,[0,1],[1,0],[⟨0,[0,1]⟩,⟨1,[1,0]⟩],[⟨0,[]⟩,⟨1,[]⟩]⟩,⟨2,[0,0],[1,1],[],[]⟩,⟨1,[0],[0],[⟨0,[0,0,0]⟩],[⟨0,[]⟩]⟩,⟨1,[0,0],[0,0],[⟨0,[0,0]⟩,⟨0,[1,1]⟩,⟨0,[0,1]⟩,⟨0,[1,0]⟩],[⟨0,[0]⟩,⟨0,[1]⟩,⟨0,[0]⟩,⟨0,[1]⟩]⟩,⟨2,[0,1],[1,1],[⟨1,[1,1]⟩],[⟨1,[1]⟩]⟩,⟨0,[],[],[],[]⟩,⟨2,[],[],[],[]⟩,⟨4,[0,0,1,2],[1,2,3,3],[⟨0,[0,2]⟩],[⟨0,[1,3]⟩]⟩,⟨1,[0],[0],[⟨0,[0,0,0,0]⟩],[⟨0,[0,0]⟩]⟩,⟨2,[0,0],[0,1],[⟨0,[0,0]⟩,⟨0,[0,1]⟩],[⟨0,[]⟩,⟨0,[1]⟩]⟩,⟨1,[0],[0],[],[]⟩,⟨2,[0,1],[1,0],[],[]⟩,⟨1,[0,0],[0,0],[⟨0,[0,1]⟩,⟨0,[0,0]⟩,⟨0,[1,1]⟩],[⟨0,[1,0]⟩,⟨0,[]⟩,⟨0,[]⟩]⟩,⟨3,[0,2],[1,1],[],[]⟩]
def og:List (List UInt8):=[[49,32,124,32,48,62,48,32,124,32,64,48,97,97,61,64,48],[49,32,124,32,48,62,48,32,124,32,64,48,97,97,61,64,48,97],[50,32,124,32,48,62,49,32,124,32,45],[51,32,124,32,48,62,49,32,49,62,50,32,124,32,45],[51,32,124,32,48,62,49,32,49,62,50,32,48,62,50,32,124,32,64,48,97,98,61,64,48,99],[50,32,124,32,48,62,49,32,49,62,48,32,124,32,64,48,97,98,61,64,48],[50,32,124,32,48,62,49,32,49,62,48,32,124,32,64,48,97,98,61,64,48,32,64,49,98,97,61,64,49],[50,32,124,32,48,62,49,32,48,62,49,32,124,32,45],[49,32,124,32,48,62,48,32,124,32,64,48,97,97,97,61,64,48],[49,32,124,32,48,62,48,32,48,62,48,32,124,32,64,48,97,97,61,64,48,97,32,64,48,98,98,61,64,48,98,32,64,48,97,98,61,64,48,97,32,64,48,98,97,61,64,48,98],[50,32,124,32,48,62,49,32,49,62,49,32,124,32,64,49,98,98,61,64,49,98],[48,32,124,32,45,32,124,32,45],[50,32,124,32,45,32,124,32,45],[52,32,124,32,48,62,49,32,48,62,50,32,49,62,51,32,50,62,51,32,124,32,64,48,97,99,61,64,48,98,100],[49,32,124,32,48,62,48,32,124,32,64,48,97,97,97,97,61,64,48,97,97],[50,32,124,32,48,62,48,32,48,62,49,32,124,32,64,48,97,97,61,64,48,32,64,48,97,98,61,64,48,98],[49,32,124,32,48,62,48,32,124,32,45],[50,32,124,32,48,62,49,32,49,62,48,32,124,32,45],[49,32,124,32,48,62,48,32,48,62,48,32,124,32,64,48,97,98,61,64,48,98,97,32,64,48,97,97,61,64,48,32,64,48,98,98,61,64,48],[51,32,124,32,48,62,49,32,50,62,49,32,124,32,45]]
structure xM(s:aa):Prop where
 ps:j8 s.bK=some s
 len:s.bK.length<=60
 nl:(10:UInt8) ∉ s.bK
theorem xM.ok{s:aa}(h:xM s):s.ok=true:=(IH h.ps).1
theorem Rh:(List.range 20).all (fun i=>(Hb.getD i aa.zero).ok&&(decide (og.getD i []=(Hb.getD i aa.zero).bK)&&(decide ((og.getD i []).length<=60)&&!(og.getD i []).contains 10)))=true:=by decide +kernel
theorem W0{t:List UInt8}(h:∃s:aa,s.ok=true/\t=s.bK):∃s,j8 t=some s:=by
 unfold j8;rw[dif_pos h];exact⟨_,rfl⟩
theorem Ri{k:Nat}(hk:k<20):∃s,j8 (og.getD k [])=some s/\xM s/\(og.getD k []).length<=60:=by
 have h:=List.all_eq_true.1 Rh k (List.mem_range.2 hk);simp only[Bool.and_eq_true,decide_eq_true_eq,Bool.not_eq_true'] at h;obtain⟨h1,W,S,V⟩:=h;obtain⟨s,I⟩:=W0 ⟨_,h1,W⟩;have e:=(IH I).2;refine⟨s,I,⟨e▸I,e▸S,fun hm=>?_⟩,S⟩;rw[<-e] at hm;rw[List.contains_iff_mem.2 hm] at V;cases V
end Go.D3
namespace Go.D3
open Go Proofs
set_option maxHeartbeats 4000000
set_option maxRecDepth 100000
theorem aaw{s:aa}(h:il s){i:Nat}(hi:i<s.fr.length):bx [62] 0 (s.mD i)=[Lib.itoa (s.fr.getD i 0),Lib.itoa (s.to.getD i 0)]:=by
 obtain⟨a,b⟩:=h.ed i hi;have h1:(62:UInt8) ∉ Lib.itoa (s.fr.getD i 0):=fun I=>by have:=rG a.1 I;revert this;decide
 have S:(62:UInt8) ∉ Lib.itoa (s.to.getD i 0):=fun I=>by have:=rG b.1 I;revert this;decide
 unfold aa.mD;rw[show Lib.itoa (s.fr.getD i 0)++62::Lib.itoa (s.to.getD i 0)=Lib.itoa (s.fr.getD i 0)++[62]++Lib.itoa (s.to.getD i 0) by simp,BE h1,BF S]
theorem aax{s:aa}(h:il s){i:Nat}(hi:i<s.lf.length):bx [61] 0 (s.mG i)=[(s.lf.getD i U.zero).bK,(s.rt.getD i U.zero).bK]:=by
 obtain⟨a,b⟩:=h.eq i hi;unfold aa.mG;rw[show(s.lf.getD i U.zero).bK++61::(s.rt.getD i U.zero).bK=(s.lf.getD i U.zero).bK++[61]++(s.rt.getD i U.zero).bK by simp,BE fun I=>(xA a I).2 rfl,BF fun I=>(xA b I).2 rfl]
def Eh(t:List UInt8)(rc:D)(gs:List D):Prop:=gs=[]/\∃(fr to:List Int)(e:Bool),rc=.o (.av [ints fr,ints to,.bool e])/\∀q:aa,q.ok=true->t=eC (q.dS q.fr.length)->fr=q.fr/\to=q.to/\e=true
theorem Ho{α:Type}{l:List α}(h:l.length=2):∃a b,l=[a,b]:=by
 match l,h with
 | [a,b],_=>exact⟨a,b,rfl⟩
def DK:List Nat:=[0,2,3,4,5,6,7,8,9]
def LR:Sl:=ah Tryz.types Tryz.f208 DK []
theorem Vq:aE Tryz.prog Tryz.f208 DK LR 1=true:=by decide +kernel
theorem YZ(t:List UInt8)(ht:t.length<=4294966000):bn Tryz.prog 208 [.str t] [] (Eh t):=by
 have V:∀q:aa,q.ok=true->t=eC (q.dS q.fr.length)->gH t=q.dS q.fr.length:=fun q h1 S=>by rw[S];exact abj (gD h1)
 have no:(∀q:aa,q.ok=true->t≠eC (q.dS q.fr.length))->Eh t (.o (.av [ints [],ints [],.bool false])) []:=fun h=>⟨rfl,[],[],false,rfl,fun q h1 S=>absurd S (h q h1)⟩
 refine dB .tree Tryz.func208 Vq ?_;unfold LR ah DK;simp only[go_sem];refine⟨fun h=>?_,fun h=>?_⟩
 ·refine⟨_,_,⟨rfl,[],[],true,rfl,fun q h1 S=>?_⟩,rfl,rfl,trivial⟩
  have hw:=V q h1 S;unfold gH at hw;rw[if_pos h] at hw;have hl:q.fr.length=0:=by rw[<-ri (s:=q) (n:=q.fr.length),<-hw];rfl
  exact⟨(List.length_eq_zero_iff.1 hl).symm,(List.length_eq_zero_iff.1 (by rw[(gD h1).to];exact hl)).symm,rfl⟩
 ·have ao:gH t=bx [32] 0 t:=by unfold gH;rw[if_neg (by simpa using h)]
  rw[ao] at V;refine aj (xa t 32 (by omega)) rfl (.inl (tN _)) ?_;have hn:∀x∈bx [32] 0 t,x.length<=t.length:=fun x hx=>oV hx
  generalize bx [32] 0 t=ws at V hn;simp only[go_sem];refine⟨fun h1=>⟨_,_,no (fun q S W=>?_),rfl,rfl,trivial⟩,fun h1=>?_⟩
  ·have:=(gD S).f8
   rw[V q S W,ri] at h1;omega
  refine au [8] (fun(p:Nat×List Int×List Int)=>[(4,.o (ints p.2.1)),(5,.o (ints p.2.2)),(7,.int .i64 p.1)]) (fun p=>p.1<=ws.length/\p.2.1.length=p.1/\p.2.2.length=p.1/\∀q:aa,q.ok=true->t=eC (q.dS q.fr.length)->p.2.1=q.fr.take p.1/\p.2.2=q.to.take p.1) (fun p=>ws.length-p.1) (0,[],[]) (by simp only[go_sem];rfl) ⟨Nat.zero_le _,rfl,rfl,fun _ _ _=>⟨rfl,rfl⟩⟩ rfl ?_;rintro⟨i,fr,to⟩ ⟨hi,hf,ad,hq⟩;simp only at hi hf ad hq;simp only[go_sem];refine⟨fun S=>⟨S,?_⟩,fun S=>?_⟩
  ·have hx:ws.getD i []∈ws:=by rw[aM S];exact List.getElem_mem _
   have ax:=hn _ hx;refine aj (xa (ws.getD i []) 62 (by omega)) rfl (.inl (tN _)) ?_
   have hs:∀q:aa,q.ok=true->t=eC (q.dS q.fr.length)->i<q.fr.length/\bx [62] 0 (ws.getD i [])=[Lib.itoa (q.fr.getD i 0),Lib.itoa (q.to.getD i 0)]:=fun q W I=>by
    have hw:=V q W I;have Z:i<q.fr.length:=by rw[hw,ri] at S;exact S
    rw[hw,PL Z];exact⟨Z,aaw (gD W) Z⟩
   generalize bx [62] 0 (ws.getD i [])=es at hs;simp only[go_sem];by_cases W:es.length=2
   ·obtain⟨a,b,rfl⟩:=Ho W
    have e2:(((2:Nat):Int) != 2)=false:=rfl;simp only[go_sem,e2];refine⟨by decide,bf (fun _=>uz _) rfl (fun h=>h) (.inl (by cases eW 9 a<;>rfl)) ?_⟩
    have ab:∀q:aa,q.ok=true->t=eC (q.dS q.fr.length)->i<q.fr.length/\eW 9 a=some (q.fr.getD i 0).toNat/\eW 9 b=some (q.to.getD i 0).toNat:=fun q I Y=>by
     obtain⟨a1,a2⟩:=hs q I Y;obtain⟨b1,b2⟩:=(gD I).ed i a1;simp only[List.cons.injEq,and_true] at a2;rw[a2.1,a2.2];exact⟨a1,zu b1.1 (by rw[zw b1.1 (by omega)];decide),zu b2.1 (by rw[zw b2.1 (by omega)];decide)⟩
    cases ha:eW 9 a with
    | none =>
     simp only[pd];simp only[go_sem];have e3:decide ((-1:Int)<0)=true:=rfl;simp only[go_sem,e3];refine bf (res:=.int .i64 0) (fun h=>by cases h) rfl (fun h=>by cases h) (.inl rfl) ?_;simp only[go_sem];exact⟨_,_,no (fun q I Y=>by have:=(ab q I Y).2.1;rw[ha] at this;cases this),rfl,rfl,trivial⟩
    | some m =>
     have e3:decide ((m:Int)<0)=false:=decide_eq_false (by omega);simp only[pd];simp only[go_sem,e3];refine⟨by decide,bf (fun _=>uz _) rfl (fun h=>h) (.inl (by cases eW 9 b<;>rfl)) ?_⟩;cases hb:eW 9 b with
     | none =>
      have e4:decide ((-1:Int)<0)=true:=rfl;simp only[pd];simp only[go_sem,e4];exact⟨_,_,no (fun q I Y=>by have:=(ab q I Y).2.2;rw[hb] at this;cases this),rfl,rfl,trivial⟩
     | some n =>
      have e4:decide ((n:Int)<0)=false:=decide_eq_false (by omega);simp only[pd];simp only[go_sem,e4];refine⟨by decide,aj (uz _) rfl (.inl (by cases eW 9 a<;>rfl)) ?_⟩;rw[ha];simp only[pd];simp only[go_sem];refine⟨by omega,by decide,aj (uz _) rfl (.inl (by cases eW 9 b<;>rfl)) ?_⟩;rw[hb];simp only[pd];simp only[go_sem];refine⟨by omega,(i+1,fr++[(m:Int)],to++[(n:Int)]),⟨S,by simp[hf],by simp[ad],fun q I Y=>?_⟩,by show ws.length-(i+1)<_;omega,by rw[wrap_small (by omega) (by omega)];rfl⟩;obtain⟨a1,a2,a3⟩:=ab q I Y;have hT:=gD I;obtain⟨b1,b2⟩:=hT.ed i a1;obtain⟨q1,q2⟩:=hq q I Y;rw[ha] at a2;rw[hb] at a3;injection a2 with a2
      injection a3 with a3
      show fr++_=q.fr.take (i+1)/\to++_=q.to.take (i+1);rw[b7 a1 0,b7 (by rw[hT.to];exact a1) 0,q1,q2,a2,a3,Int.toNat_of_nonneg b1.1,Int.toNat_of_nonneg b2.1];exact⟨rfl,rfl⟩
   ·have hg:(!((es.length:Int) != 2))=false:=by simp;omega
    have ag:((es.length:Int) != 2)=true:=by simpa using hg
    rw[ag];simp only[go_sem];refine bf (res:=.int .i64 0) (fun h=>by cases h) rfl (fun h=>by cases h) (.inl rfl) ?_;simp only[go_sem];refine bf (res:=.int .i64 0) (fun h=>by cases h) rfl (fun h=>by cases h) (.inl rfl) ?_;simp only[go_sem];exact⟨_,_,no (fun q I Y=>by have:=(hs q I Y).2;rw[this] at W;simp at W),rfl,rfl,trivial⟩
  ·refine⟨_,_,⟨rfl,fr,to,true,rfl,fun q W I=>?_⟩,rfl,rfl,trivial⟩
   obtain⟨q1,q2⟩:=hq q W I;have hw:=V q W I;rw[hw,ri] at S;have:=(gD W).to;rw[List.take_of_length_le (by omega)] at q1 q2;exact⟨q1,q2,rfl⟩
end Go.D3
namespace Go.D3
open Go Proofs
set_option maxHeartbeats 4000000
set_option maxRecDepth 100000
def El(t:List UInt8)(rc:D)(gs:List D):Prop:=gs=[]/\∃(p:U)(e:Bool),rc=.o (.av [U.d p,.bool e])/\∀q,jD q->t=q.bK->p=q/\e=true
theorem Q0{n:Int}(h : 0<=n)(h1:n<10):Lib.itoa n=[UInt8.ofNat (48+n.toNat)]:=by
 obtain⟨m,rfl⟩:∃m:Nat,n=m:=⟨n.toNat,by omega⟩;rw[Lib.itoa_nonneg,Lib.decDigits_one (by omega)];rfl
theorem aa8{q:U}(h:jD q):q.bK=64::UInt8.ofNat (48+q.st.toNat)::q.ed.map mF:=by
 unfold U.bK;rw[Q0 h.st.1 (by have:=h.st;omega)];rfl
def D1:List Nat:=[0,2,3,4,5]
def Ma:Sl:=ah Tryz.types Tryz.f210 D1 []
theorem VI:aE Tryz.prog Tryz.f210 D1 Ma 1=true:=by decide +kernel
theorem JK(t:List UInt8)(ht:t.length<=4294966000):bn Tryz.prog 210 [.str t] [] (El t):=by
 have no:(∀q,jD q->t≠q.bK)->El t (.o (.av [U.d U.zero,.bool false])) []:=fun h=>⟨rfl,U.zero,false,rfl,fun q h1 V=>absurd V (h q h1)⟩
 have Z:∀q,jD q->t=q.bK->t.length=q.ed.length+2/\t.getD 0 0=64/\((t.getD 1 0).toNat:Int)=48+q.st/\∀i,t.getD (i+2) 0=(q.ed.map mF).getD i 0:=fun q h1 V=>by
  rw[V,aa8 h1];have:=h1.st;refine⟨by simp,rfl,?_,fun i=>by simp[List.getD_eq_getElem?_getD]⟩;show((UInt8.ofNat (48+q.st.toNat)).toNat:Int)=_;rw[UInt8.toNat_ofNat',Nat.mod_eq_of_lt (by omega)];omega
 refine dB .tree Tryz.func210 VI ?_;unfold Ma ah D1;simp only[go_sem];refine⟨fun h=>⟨h,by decide,by simp at h;omega⟩,(fun h=>by simpa using h),fun h=>⟨_,_,no (fun q h1 V=>?_),rfl,rfl,trivial⟩,fun h=>?_⟩
 ·obtain⟨Y,a2,_⟩:=Z q h1 V
  rw[Y,a2] at h;simp at h;omega
 ·simp only[Bool.or_eq_false_iff,decide_eq_false_iff_not] at h
  refine⟨by omega,?_⟩;have hb:=(t.getD 1 0).toNat_lt;rw[wrap_small (n:=((t.getD 1 0).toNat:Int)) (by omega) (by omega),wrap_small (by omega) (by omega)];refine au [] (fun(p:Nat×List Int)=>[(3,.box [.int .i64 (((t.getD 1 0).toNat:Int)-48),.o (ints p.2)]),(4,.int .i64 (p.1+2:Nat))]) (fun p=>p.1+2<=t.length/\p.2.length=p.1/\p.1<=6/\∀q,jD q->t=q.bK->p.2=q.ed.take p.1) (fun p=>t.length-p.1) (0,[]) (by simp only[go_sem];rfl) ⟨by show 0+2<=_;omega,rfl,by decide,fun _ _ _=>rfl⟩ rfl ?_;rintro⟨k,ed⟩ ⟨hk,hl,h6,he⟩;simp only at hk hl h6 he;simp only[go_sem];refine⟨fun h1=>⟨fun V=>⟨_,_,no (fun q I W=>?_),rfl,rfl,trivial⟩,fun V=>aj (eE ed (by omega)) rfl (.inl (bJ _)) ?_⟩,fun h1=>⟨_,_,⟨rfl,⟨((t.getD 1 0).toNat:Int)-48,ed⟩,true,rfl,fun q I W=>⟨?_,rfl⟩⟩,rfl,rfl,trivial⟩⟩
  ·obtain⟨Y,_⟩:=Z q I W
   have:=I.len;omega
  ·simp only[go_sem]
   have ab:=(t.getD (k+2) 0).toNat_lt;rw[wrap_small (n:=((t.getD (k+2) 0).toNat:Int)) (by omega) (by omega),wrap_small (n:=((t.getD (k+2) 0).toNat:Int)-97) (by omega) (by omega)];refine⟨h1,by omega,(k+1,ed++[((t.getD (k+2) 0).toNat:Int)-97]),⟨by show k+1+2<=_;omega,by simp[hl],by show k+1<=6;omega,fun q I W=>?_⟩,by show t.length-(k+1)<_;omega,?_⟩
   ·obtain⟨Y,a2,a3,a4⟩:=Z q I W
    have S:k<q.ed.length:=by omega
    have hr:=I.ed k S;have hx:(t.getD (k+2) 0)=mF (q.ed.getD k 0):=by rw[a4,List.getD_eq_getElem?_getD,List.getElem?_map,List.getElem?_eq_getElem S,aM S];rfl
    show ed++_=q.ed.take (k+1);rw[b7 S 0,he q I W,hx,FP hr,Int.add_comm 97,Int.add_sub_cancel]
   ·rw[wrap_small (by omega) (by omega)];rfl
  ·obtain⟨Y,a2,a3,a4⟩:=Z q I W
   have h5:=he q I W;rw[List.take_of_length_le (by omega)] at h5;rw[h5,show((t.getD 1 0).toNat:Int)-48=q.st by omega]
end Go.D3
