/- PLAIN LAWS: what a shape and a category are. -/
import Derived.Test.YtaknpcdnmecblaaHG
import Derived.Test.YtaknpcdnmecblaaProg
namespace Go.D3
open Go Proofs
set_option maxHeartbeats 4000000
set_option maxRecDepth 100000
structure Cat where
 ob:Int
 fr:List (Int)
 to:List (Int)
 aK:List (Int)
 co:List (List (Int))
def Cat.cells(x:Cat):List D:=[.int .i64 x.ob,ints x.fr,ints x.to,ints x.aK,aB x.co]
def Cat.d(x:Cat):D:=.agg x.cells
def Cat.zero:Cat:=⟨0,[],[],[],[]⟩
def Cat.cost(x:Cat):Nat:=x.fr.length+x.to.length+x.aK.length+dk List.length x.co
theorem Oa:D.slice (.agg [.int .i64 0,ints [],ints [],ints [],aB []]) []=ak Cat.d Cat.zero []:=rfl
theorem MA{n:Nat}:D.slice (.agg [.int .i64 0,ints [],ints [],ints [],aB []]) (List.replicate n (.agg [.int .i64 0,ints [],ints [],ints [],aB []]))=ak Cat.d Cat.zero (List.replicate n Cat.zero):=by unfold ak;rw[List.map_replicate];rfl
theorem NP{l:List Cat}{i:Nat}{ob:Int}{fr:List (Int)}{to:List (Int)}{aK:List (Int)}{co:List (List (Int))}:dB (.o (ak Cat.d Cat.zero l)) [(i,0)] 0 [.int .i64 ob,ints fr,ints to,ints aK,aB co]=.o (ak Cat.d Cat.zero (l.set i ⟨ob,fr,to,aK,co⟩)):=xt (n:=5) (fun _=>⟨_,rfl,rfl⟩) rfl
attribute [go_sem] Cat.cells.eq_1 Cat.d.eq_1 Oa MA
attribute [go_sem high] NP
theorem eM(x:Cat):x.d.bp=true:=by simp only[Cat.d,Cat.cells,D.bp,dA,ch,im,Bool.and_self]
structure dN where
 nm:List UInt8
 cat:Cat
def dN.cells(x:dN):List D:=[.str x.nm,.int .i64 x.cat.ob,ints x.cat.fr,ints x.cat.to,ints x.cat.aK,aB x.cat.co]
def dN.d(x:dN):D:=.agg x.cells
def dN.zero:dN:=⟨[],Cat.zero⟩
def dN.cost(x:dN):Nat:=x.nm.length+Cat.cost x.cat
theorem N9:D.slice (.agg [.str [],.int .i64 0,ints [],ints [],ints [],aB []]) []=ak dN.d dN.zero []:=rfl
theorem Mz{n:Nat}:D.slice (.agg [.str [],.int .i64 0,ints [],ints [],ints [],aB []]) (List.replicate n (.agg [.str [],.int .i64 0,ints [],ints [],ints [],aB []]))=ak dN.d dN.zero (List.replicate n dN.zero):=by unfold ak;rw[List.map_replicate];rfl
theorem NO{l:List dN}{i:Nat}{nm:List UInt8}{catob:Int}{catfr:List (Int)}{catto:List (Int)}{catidn:List (Int)}{catco:List (List (Int))}:dB (.o (ak dN.d dN.zero l)) [(i,0)] 0 [.str nm,.int .i64 catob,ints catfr,ints catto,ints catidn,aB catco]=.o (ak dN.d dN.zero (l.set i ⟨nm,⟨catob,catfr,catto,catidn,catco⟩⟩)):=xt (n:=6) (fun _=>⟨_,rfl,rfl⟩) rfl
attribute [go_sem] dN.cells.eq_1 dN.d.eq_1 N9 Mz
attribute [go_sem high] NO
def yt:List Nat:=[0,1,4]
def Ef:Sl:=al Try.types Try.f11 yt []
theorem KA:aX Try.prog Try.f11 yt Ef 2=true:=by decide +kernel
theorem s9(a:List (Int))(left:Int)(h0 : 0<=left)(h1:left<=1048576):aD Try.prog 11 [.v (ints a),.v (.int .i64 left)] (.int .i64 (sb left (a.length))):=by
 refine jk fun hw=>?_
 simp only[eJ,jr] at hw;obtain⟨⟨hw,-⟩,-⟩:=hw;refine a7 Try.func11 KA ?_;unfold Ef al yt;simp only[go_sem];rw[Fw h0 (by simp only[maxLen];omega) hw];unfold sb;refine⟨fun h=>?_,fun h=>?_⟩
 ·rw[if_neg (by omega)]
 ·rw[if_pos (by omega)]
def yu:List Nat:=[0,1,4,5]
def Eg:Sl:=al Try.types Try.f12 yu []
theorem KB:aX Try.prog Try.f12 yu Eg 2=true:=by decide +kernel
theorem Nd(a:List (List (Int)))(left:Int)(h0 : 0<=left)(h1:left<=1048576):aD Try.prog 12 [.v (aB a),.v (.int .i64 left)] (.int .i64 (sb left (dk List.length a))):=by
 refine jk fun hw=>?_
 simp only[eJ,jr] at hw;obtain⟨⟨hw,-⟩,-⟩:=hw;refine a7 Try.func12 KB ?_;unfold Eg al yu;simp only[go_sem];rw[Fw h0 (by simp only[maxLen];omega) hw];refine⟨fun h=>?_,fun h=>?_⟩
 ·unfold sb dk;rw[if_neg (by omega)]
 refine ba [] (fun(i:Nat)=>[(1,.int .i64 (left-a.length-(((a.take i).map List.length).sum:Nat))),(3,.int .i64 i)]) (fun i=>i<=a.length/\0<=left-a.length-(((a.take i).map List.length).sum:Nat)) (fun i=>a.length-i) 0 rfl ⟨Nat.zero_le _,by simp;omega⟩ ?_ ?_
 ·simp only[go_sem,List.take_zero,List.map_nil,List.sum_nil];simp
 rintro i ⟨hi,ha⟩;simp only[go_sem];refine⟨fun h2=>⟨h2,aC (s9 (a.getD i []) _ ha (by omega)) rfl (.inl rfl) ?_⟩,fun h2=>?_⟩
 ·simp only[go_sem]
  refine⟨fun h3=>?_,fun h3=>?_⟩
  ·rw[NH h2 _ h3]
  ·obtain⟨e1,e2⟩:=NG h2 _ h3
   exact⟨i+1,⟨by omega,e2⟩,by omega,by rw[e1,aU h2 hw]⟩
 ·rw[NF hi h2 ha]
def yr:List Nat:=[0,1,4,2]
def Ee:Sl:=al Try.types Try.f4 yr []
theorem Kz:aX Try.prog Try.f4 yr Ee 2=true:=by decide +kernel
theorem Nc(a:Cat)(left:Int)(h0 : 0<=left)(h1:left<=1048576):aD Try.prog 4 [.v (Cat.d a),.v (.int .i64 left)] (.int .i64 (sb left (Cat.cost a))):=by
 refine a7 Try.func4 Kz ?_;unfold Ee al yr;simp only[go_sem];refine aC (s9 a.fr _ h0 h1) rfl (.inl rfl) ?_;simp only[go_sem];refine⟨fun hh=>?_,fun hh=>?_⟩
 ·rw[tf h0 hh (by unfold Cat.cost;omega)]
 refine aC (s9 a.to _ (xg hh) (Int.le_trans (xf _ h0) h1)) rfl (.inl rfl) ?_;simp only[go_sem];rw[xe hh];refine⟨fun hh=>?_,fun hh=>?_⟩
 ·rw[tf h0 hh (by unfold Cat.cost;omega)]
 refine aC (s9 a.aK _ (xg hh) (Int.le_trans (xf _ h0) h1)) rfl (.inl rfl) ?_;simp only[go_sem];rw[xe hh];refine⟨fun hh=>?_,fun hh=>?_⟩
 ·rw[tf h0 hh (by unfold Cat.cost;omega)]
 refine aC (Nd a.co _ (xg hh) (Int.le_trans (xf _ h0) h1)) rfl (.inl rfl) ?_;simp only[go_sem];rw[xe hh];refine⟨fun hh=>?_,fun hh=>?_⟩
 ·rw[tf h0 hh (by unfold Cat.cost;omega)]
 all_goals rfl
end Go.D3
namespace Go.D3
open Go Proofs
set_option maxHeartbeats 4000000
set_option maxRecDepth 100000
def yw:List Nat:=[0,2,3,4]
def Ei:Sl:=al Try.types Try.f16 yw []
theorem KD:aX Try.prog Try.f16 yw Ei 1=true:=by decide +kernel
theorem tc(a:List (Int))(hs:a.length<=1048576):aD Try.prog 16 [.v (ints a)] (ints a):=by
 have hm:a.length<=maxLen:=by simp only[maxLen];omega
 refine a7 Try.func16 KD ?_;unfold Ei al yw;simp only[go_sem];refine⟨by omega,?_⟩;refine ba [] (fun(i:Nat)=>[(2,.o (ints (cQ a 0 i))),(3,.int .i64 i)]) (fun i=>i<=a.length) (fun i=>a.length-i) 0 rfl (Nat.zero_le _) ?_ ?_
 ·simp only[go_sem,rn];rfl
 rintro i hi;simp only[go_sem];exact⟨fun h=>⟨h,by rw[l9 hi];exact h,by rw[l9 hi];exact h,i+1,by omega,by omega,by rw[rm h,aU h hm]⟩,fun h=>by rw[rl h]⟩
def yx:List Nat:=[0,2,3,4]
def Ej:Sl:=al Try.types Try.f17 yx []
theorem KE:aX Try.prog Try.f17 yx Ej 1=true:=by decide +kernel
theorem Nf(a:List (List (Int)))(hs:dk List.length a<=1048576):aD Try.prog 17 [.v (aB a)] (aB a):=by
 have hm:a.length<=maxLen:=by unfold dk at hs;simp only[maxLen];omega
 refine a7 Try.func17 KE ?_;unfold Ej al yx;simp only[go_sem];refine⟨by unfold dk at hs;omega,?_⟩;refine ba [] (fun(i:Nat)=>[(2,.o (aB (cQ a [] i))),(3,.int .i64 i)]) (fun i=>i<=a.length) (fun i=>a.length-i) 0 rfl (Nat.zero_le _) ?_ ?_
 ·simp only[go_sem,rn];rfl
 rintro i hi;simp only[go_sem];refine⟨fun h=>⟨h,aC (tc (a.getD i []) (Nat.le_trans (uD (cost:=List.length) h _) hs)) rfl (.inl (ch _)) ?_⟩,fun h=>by rw[rl h]⟩;simp only[go_sem];exact⟨by rw[l9 hi];exact h,by rw[l9 hi];exact h,i+1,by omega,by omega,by rw[rm h,aU h hm]⟩
def yv:List Nat:=[0,2,1,3]
def Eh:Sl:=al Try.types Try.f6 yv []
theorem KC:aX Try.prog Try.f6 yv Eh 1=true:=by decide +kernel
theorem ta(a:Cat)(hs:Cat.cost a<=1048576):aD Try.prog 6 [.v (Cat.d a)] (Cat.d a):=by
 have hs2:=hs;unfold Cat.cost at hs2;refine a7 Try.func6 KC ?_;unfold Eh al yv;simp only[go_sem];refine aC (tc a.fr (by omega)) rfl (.inl (ch _)) ?_;simp only[go_sem];refine aC (tc a.to (by omega)) rfl (.inl (ch _)) ?_;simp only[go_sem];refine aC (tc a.aK (by omega)) rfl (.inl (ch _)) ?_;simp only[go_sem];refine aC (Nf a.co (by omega)) rfl (.inl (im _)) ?_;simp only[go_sem]
 all_goals rfl
end Go.D3
namespace Go.D3
open Go Proofs
set_option maxHeartbeats 4000000
set_option maxRecDepth 100000
def yj:List Nat:=[0,1,4,5]
def D6:Sl:=al Try.types Try.f22 yj []
theorem Kr:aX Try.prog Try.f22 yj D6 2=true:=by decide +kernel
theorem s5(a:List (Int)):aD Try.prog 22 [.v (ints a),.v (ints a)] (.bool true):=by
 refine jk fun hw=>?_
 simp only[eJ,jr] at hw;have hm:=hw.1.1;refine a7 Try.func22 Kr ?_;unfold D6 al yj;simp only[go_sem];refine⟨fun h=>by simp at h,fun _=>?_⟩;refine ba [] (fun(i:Nat)=>[(3,.int .i64 i)]) (fun i=>i<=a.length) (fun i=>a.length-i) 0 rfl (Nat.zero_le _) rfl ?_;rintro i hi;simp only[go_sem];exact fun h=>⟨h,h,fun h2=>by simp at h2,fun _=>⟨i+1,by omega,by omega,by rw[aU h hm]⟩⟩
def yk:List Nat:=[0,1,4,5]
def D7:Sl:=al Try.types Try.f23 yk []
theorem Ks:aX Try.prog Try.f23 yk D7 2=true:=by decide +kernel
theorem M9(a:List (List (Int))):aD Try.prog 23 [.v (aB a),.v (aB a)] (.bool true):=by
 refine jk fun hw=>?_
 simp only[eJ,jr] at hw;have hm:=hw.1.1;refine a7 Try.func23 Ks ?_;unfold D7 al yk;simp only[go_sem];refine⟨fun h=>by simp at h,fun _=>?_⟩;refine ba [] (fun(i:Nat)=>[(3,.int .i64 i)]) (fun i=>i<=a.length) (fun i=>a.length-i) 0 rfl (Nat.zero_le _) rfl ?_;rintro i hi;simp only[go_sem];refine fun h=>⟨h,h,aC (s5 (a.getD i [])) rfl (.inl rfl) ?_⟩
 simp only[go_sem];exact⟨i+1,by omega,by omega,by rw[aU h hm]⟩
def yi:List Nat:=[0,1,4,2,3]
def D5:Sl:=al Try.types Try.f8 yi []
theorem Kq:aX Try.prog Try.f8 yi D5 2=true:=by decide +kernel
theorem sZ(a:Cat):aD Try.prog 8 [.v (Cat.d a),.v (Cat.d a)] (.bool true):=by
 refine a7 Try.func8 Kq ?_;unfold D5 al yi;simp only[go_sem];refine⟨fun h=>by simp at h,fun _=>?_⟩;refine aC (s5 a.fr) rfl (.inl rfl) ?_;simp only[go_sem];refine aC (s5 a.to) rfl (.inl rfl) ?_;simp only[go_sem];refine aC (s5 a.aK) rfl (.inl rfl) ?_;simp only[go_sem];refine aC (M9 a.co) rfl (.inl rfl) ?_;simp only[go_sem]
 all_goals trivial
end Go.D3
namespace Go.D3
open Go Proofs
set_option maxHeartbeats 4000000
set_option maxRecDepth 100000
def jd(k:Int)(a:List Int)(i:Nat):List Int:=((List.range i).map fun j:Nat=>k+j)++a.drop i
def eg(k:Int)(n:Nat):List Int:=(List.range n).map fun j:Nat=>k+j
theorem I8{k:Int}{a:List Int}:jd k a 0=a:=by simp[jd]
theorem I6{k:Int}{a:List Int}{i:Nat}(h:i<=a.length):(jd k a i).length=a.length:=by simp[jd];omega
theorem I7{k:Int}{a:List Int}{i:Nat}(h:i<a.length):(jd k a i).set i (k+i)=jd k a (i+1):=by
 unfold jd;rw[List.set_append_right _ _ (by simp),List.range_succ,List.map_append];simp only[List.length_map,List.length_range,Nat.sub_self,List.map_cons,List.map_nil,List.append_assoc];congr 1;rw[List.drop_eq_getElem_cons h];rfl
theorem I5{k:Int}{a:List Int}{i:Nat}(h:¬i<a.length)(hi:i<=a.length):jd k a i=eg k a.length:=by
 have:i=a.length:=by omega
 subst this;simp[jd,eg]
def yp:List Nat:=[0,1,4,5]
def Ec:Sl:=al Try.types Try.f24 yp []
theorem Kx:aX Try.prog Try.f24 yp Ec 2=true:=by decide +kernel
theorem s8(a:List Int)(k:Int)(h0 : 0<=k)(h1:k+a.length<=4611686018427387900):aD Try.prog 24 [.io (.o (ints a)) (.o (ints (eg k a.length))),.v (.int .i64 k)] (.int .i64 (k+a.length)):=by
 refine jk fun hw=>?_
 simp only[eJ,jr] at hw;have hm:a.length<=maxLen:=hw.1.1;refine a7 Try.func24 Kx ?_;unfold Ec al yp;simp only[go_sem];refine ba [] (fun(i:Nat)=>[(1,.int .i64 (k+i)),(3,.int .i64 i),(4,.o (ints (jd k a i)))]) (fun i=>i<=a.length) (fun i=>a.length-i) 0 (by simp only[go_sem];rfl) (Nat.zero_le _) ?_ ?_
 ·simp only[go_sem,I8];simp
 rintro i hi;simp only[go_sem];rw[I6 hi];refine⟨fun h=>⟨h,h,i+1,by omega,by omega,?_⟩,fun h=>⟨by rw[show i=a.length by omega],by rw[I5 h hi]⟩⟩;rw[I7 h,aU h hm,wrap_small (by omega) (by omega)];simp only[Int.natCast_add,Int.natCast_one,Int.add_assoc]
def ca(a:List (List Int)):Nat->Nat
 | 0=>0
 | i+1=>ca a i+(a.getD i []).length
def gK(k:Int)(a:List (List Int))(i:Nat):List (List Int):=((List.range i).map fun j=>eg (k+ca a j) (a.getD j []).length)++a.drop i
def je(k:Int)(a:List (List Int)):List (List Int):=(List.range a.length).map fun j=>eg (k+ca a j) (a.getD j []).length
theorem Jd{k:Int}{a:List (List Int)}:gK k a 0=a:=by simp[gK]
theorem Jb{k:Int}{a:List (List Int)}{i:Nat}(h:i<=a.length):(gK k a i).length=a.length:=by simp[gK];omega
theorem Ja{k:Int}{a:List (List Int)}{i:Nat}(_:i<a.length):(gK k a i).getD i []=a.getD i []:=by
 unfold gK;rw[List.getD_eq_getElem?_getD,List.getElem?_append_right (by simp),List.length_map,List.length_range,Nat.sub_self,List.getElem?_drop,Nat.add_zero,<-List.getD_eq_getElem?_getD]
theorem Jc{k:Int}{a:List (List Int)}{i:Nat}(h:i<a.length):(gK k a i).set i (eg (k+ca a i) (a.getD i []).length)=gK k a (i+1):=by
 unfold gK;rw[List.set_append_right _ _ (by simp),List.range_succ,List.map_append];simp only[List.length_map,List.length_range,Nat.sub_self,List.map_cons,List.map_nil,List.append_assoc];congr 1;rw[List.drop_eq_getElem_cons h];rfl
theorem I9{k:Int}{a:List (List Int)}{i:Nat}(h:¬i<a.length)(hi:i<=a.length):gK k a i=je k a:=by
 have:i=a.length:=by omega
 subst this;simp[gK,je]
theorem Am{a:List (List Int)}{i j:Nat}(h:i<=j):ca a i<=ca a j:=by
 induction h with
 | refl=>exact Nat.le_refl _
 | step _ ih=>exact Nat.le_trans ih (Nat.le_add_right _ _)
theorem NW{L:List D}{i:Nat}{z y:D}(hz:z.isAgg=false):(L.set i .dead).set i (dC ((L.set i .dead).getD i z) 0 y)=L.set i y:=by
 have:dC ((L.set i .dead).getD i z) 0 y=y:=by
  rw[List.getD_eq_getElem?_getD];by_cases h:i<L.length
  ·rw[List.getElem?_set_self h];rfl
  ·rw[List.getElem?_eq_none (by simpa using h)]
   simp only[Option.getD_none];cases z<;>first | rfl | cases hz
 rw[this,List.set_set]
def yq:List Nat:=[0,1,4,5]
def Ed:Sl:=al Try.types Try.f25 yq [(2,24)]
theorem Ky:aX Try.prog Try.f25 yq Ed 2=true:=by decide +kernel
theorem Nb(a:List (List Int))(k:Int)(h0 : 0<=k)(h1:k+ca a a.length<=4611686018427387900):aD Try.prog 25 [.io (.o (aB a)) (.o (aB (je k a))),.v (.int .i64 k)] (.int .i64 (k+ca a a.length)):=by
 refine jk fun hw=>?_
 simp only[eJ,jr] at hw;have hm:a.length<=maxLen:=hw.1.1;refine a7 Try.func25 Ky ?_;unfold Ed al yq;simp only[go_sem];refine ba [] (fun(i:Nat)=>[(1,.int .i64 (k+ca a i)),(3,.int .i64 i),(4,.o (aB (gK k a i)))]) (fun i=>i<=a.length) (fun i=>a.length-i) 0 (by simp only[go_sem];rfl) (Nat.zero_le _) ?_ ?_
 ·simp only[go_sem,Jd,ca];simp
 rintro i hi;simp only[go_sem];rw[Jb hi];refine⟨fun h=>⟨h,?_⟩,fun h=>⟨by rw[show i=a.length by omega],by rw[I9 h hi]⟩⟩;have hc:ca a (i+1)<=ca a a.length:=Am h;simp only[ca] at hc;refine pL (s8 (a.getD i []) (k+ca a i) (by omega) (by omega)) (by trivial) ?_;simp only[go_sem];refine⟨_,ints (eg (k+ca a i) (a.getD i []).length),rfl,?_,rfl,i+1,by omega,by omega,?_⟩
 ·rw[Ja h]
 ·rw[NW rfl,BH,Jc h,aU h hm]
  simp only[ca,Int.natCast_add,Int.add_assoc]
def Cat.marks(k:Int)(a:Cat):Cat:={ a with fr:=eg k a.fr.length,to:=eg (k+a.fr.length) a.to.length,aK:=eg (k+a.fr.length+a.to.length) a.aK.length,co:=je (k+a.fr.length+a.to.length+a.aK.length) a.co }
def Cat.fV(a:Cat):Nat:=a.fr.length+a.to.length+a.aK.length+ca a.co a.co.length
def yo:List Nat:=[0,1,4,2]
def Eb:Sl:=al Try.types Try.f9 yo [(2,24),(2,25),(9,2)]
theorem Kw:aX Try.prog Try.f9 yo Eb 2=true:=by decide +kernel
theorem Dw(a:Cat)(k:Int)(h0 : 0<=k)(h1:k+a.fV<=4611686018427387900):aD Try.prog 9 [.io (.o (Cat.d a)) (.o (Cat.d (a.marks k))),.v (.int .i64 k)] (.int .i64 (k+a.fV)):=by
 unfold Cat.fV at h1|-
 refine a7 Try.func9 Kw ?_;unfold Eb al yo;simp only[go_sem];refine pL (s8 a.fr k h0 (by omega)) trivial ?_;simp only[go_sem];refine⟨_,ints (eg k a.fr.length),rfl,rfl,rfl,?_⟩;refine pL (s8 a.to (k+a.fr.length) (by omega) (by omega)) trivial ?_;simp only[go_sem];refine⟨_,ints (eg (k+a.fr.length) a.to.length),rfl,rfl,rfl,?_⟩;refine pL (s8 a.aK (k+a.fr.length+a.to.length) (by omega) (by omega)) trivial ?_;simp only[go_sem];refine⟨_,ints (eg (k+a.fr.length+a.to.length) a.aK.length),rfl,rfl,rfl,?_⟩;refine pL (Nb a.co (k+a.fr.length+a.to.length+a.aK.length) (by omega) (by omega)) trivial ?_;simp only[go_sem];refine⟨_,aB (je (k+a.fr.length+a.to.length+a.aK.length) a.co),rfl,rfl,rfl,?_⟩;exact⟨by simp only[Int.natCast_add,Int.add_assoc],rfl⟩
end Go.D3
namespace Go.D3
open Go Proofs
set_option maxHeartbeats 4000000
set_option maxRecDepth 100000
theorem BU{k:Int}{n:Nat}:(eg k n).length=n:=by simp[eg]
theorem Je{k:Int}{n i:Nat}(h:i<n):(eg k n).getD i 0=k+i:=by
 unfold eg;rw[List.getD_eq_getElem?_getD,List.getElem?_map,List.getElem?_range h];rfl
def ym:List Nat:=[0,1,4,5]
def D9:Sl:=al Try.types Try.f26 ym []
theorem Ku:aX Try.prog Try.f26 ym D9 2=true:=by decide +kernel
theorem s6(n:Nat)(k:Int)(h0 : 0<=k)(h1:k+n<=4611686018427387900):aD Try.prog 26 [.v (ints (eg k n)),.v (.int .i64 k)] (.int .i64 (k+n)):=by
 refine jk fun hw=>?_
 simp only[eJ,jr,BU] at hw;have hm:n<=maxLen:=hw.1.1;refine a7 Try.func26 Ku ?_;unfold D9 al ym;simp only[go_sem];refine ba [] (fun(i:Nat)=>[(1,.int .i64 (k+i)),(3,.int .i64 i)]) (fun i=>i<=n) (fun i=>n-i) 0 (by simp only[go_sem];rfl) (Nat.zero_le _) ?_ ?_
 ·simp only[go_sem];simp
 rintro i hi;simp only[go_sem];simp only[BU];refine⟨fun h=>⟨h,?_⟩,fun h=>by rw[show i=n by omega]⟩;rw[Je h];refine⟨fun hh=>by simp at hh,fun _=>⟨i+1,by omega,by omega,?_⟩⟩;rw[aU h hm,wrap_small (by omega) (by omega)];simp only[Int.natCast_add,Int.natCast_one,Int.add_assoc]
theorem BV{k:Int}{a:List (List Int)}:(je k a).length=a.length:=by simp[je]
theorem Jf{k:Int}{a:List (List Int)}{i:Nat}(h:i<a.length):(je k a).getD i []=eg (k+ca a i) (a.getD i []).length:=by
 unfold je;rw[List.getD_eq_getElem?_getD,List.getElem?_map,List.getElem?_range h];rfl
def yn:List Nat:=[0,1,4,5]
def Ea:Sl:=al Try.types Try.f27 yn []
theorem Kv:aX Try.prog Try.f27 yn Ea 2=true:=by decide +kernel
theorem Na(a:List (List Int))(k:Int)(h0 : 0<=k)(h1:k+ca a a.length<=4611686018427387900):aD Try.prog 27 [.v (aB (je k a)),.v (.int .i64 k)] (.int .i64 (k+ca a a.length)):=by
 refine jk fun hw=>?_
 simp only[eJ,jr,BV] at hw;have hm:a.length<=maxLen:=hw.1.1;refine a7 Try.func27 Kv ?_;unfold Ea al yn;simp only[go_sem];refine ba [] (fun(i:Nat)=>[(1,.int .i64 (k+ca a i)),(3,.int .i64 i)]) (fun i=>i<=a.length) (fun i=>a.length-i) 0 (by simp only[go_sem];rfl) (Nat.zero_le _) ?_ ?_
 ·simp only[go_sem,ca];simp
 rintro i hi;simp only[go_sem];simp only[BV];refine⟨fun h=>⟨h,?_⟩,fun h=>by rw[show i=a.length by omega]⟩;rw[Jf h];have hc:ca a (i+1)<=ca a a.length:=Am h;simp only[ca] at hc;refine aC (s6 (a.getD i []).length (k+ca a i) (by omega) (by omega)) rfl (.inl rfl) ?_;simp only[go_sem];refine⟨fun hh=>by omega,fun _=>⟨i+1,by omega,by omega,?_⟩⟩;rw[aU h hm];simp only[ca,Int.natCast_add,Int.add_assoc]
def yl:List Nat:=[0,1,4,2]
def D8:Sl:=al Try.types Try.f10 yl []
theorem Kt:aX Try.prog Try.f10 yl D8 2=true:=by decide +kernel
theorem Dv(a:Cat)(k:Int)(h0 : 0<=k)(h1:k+a.fV<=4611686018427387900):aD Try.prog 10 [.v (Cat.d (a.marks k)),.v (.int .i64 k)] (.int .i64 (k+a.fV)):=by
 unfold Cat.fV at h1|-
 refine a7 Try.func10 Kt ?_;unfold D8 al yl;simp only[go_sem];refine aC (s6 a.fr.length k h0 (by omega)) rfl (.inl rfl) ?_;simp only[go_sem];refine⟨fun hh=>by omega,fun _=>?_⟩;refine aC (s6 a.to.length (k+a.fr.length) (by omega) (by omega)) rfl (.inl rfl) ?_;simp only[go_sem];refine⟨fun hh=>by omega,fun _=>?_⟩;refine aC (s6 a.aK.length (k+a.fr.length+a.to.length) (by omega) (by omega)) rfl (.inl rfl) ?_;simp only[go_sem];refine⟨fun hh=>by omega,fun _=>?_⟩;refine aC (Na a.co (k+a.fr.length+a.to.length+a.aK.length) (by omega) (by omega)) rfl (.inl rfl) ?_;simp only[go_sem];refine⟨fun hh=>by omega,fun _=>?_⟩;simp only[Int.natCast_add,Int.add_assoc]
end Go.D3
namespace Go.D3
open Go Proofs
set_option maxHeartbeats 4000000
set_option maxRecDepth 100000
def fh(n lo hi:Int):Bool:=decide (lo<=n)&&decide (n<=hi)
def fj(n:Int)(f:List Int):Bool:=f.all fun y=>decide (0<=y)&&decide (y<n)
def yC:List Nat:=[0,1,2,6]
def Eo:Sl:=al Try.types Try.f43 yC []
theorem KJ:aX Try.prog Try.f43 yC Eo 3=true:=by decide +kernel
theorem Nn(n lo hi:Int):aD Try.prog 43 [.v (.int .i64 n),.v (.int .i64 lo),.v (.int .i64 hi)] (.bool (fh n lo hi)):=by
 unfold fh;refine a7 Try.func43 KJ ?_;unfold Eo al yC;simp only[go_sem]
def yd:List Nat:=[0,1,2,6]
def DZ:Sl:=al Try.types Try.f53 yd []
theorem Kk:aX Try.prog Try.f53 yd DZ 3=true:=by decide +kernel
theorem wV[Mode](n lo hi:Int):aD Try.prog 53 [.v (.int .i64 n),.v (.int .i64 lo),.v (.int .i64 hi)] (.bool (fh n lo hi)):=by
 unfold fh;refine a7 Try.func53 Kk ?_;unfold DZ al yd;simp only[go_sem]
def yD:List Nat:=[0,1,4,5]
def Ep:Sl:=al Try.types Try.f45 yD []
theorem KK:aX Try.prog Try.f45 yD Ep 2=true:=by decide +kernel
theorem td(n:Int)(f:List Int):aD Try.prog 45 [.v (.int .i64 n),.v (ints f)] (.bool (fj n f)):=by
 refine jk fun hw=>?_
 simp only[eJ,jr] at hw;obtain⟨-,⟨hw,-⟩,-⟩:=hw;refine a7 Try.func45 KK ?_;unfold Ep al yD;simp only[go_sem];refine ba [] (fun(i:Nat)=>[(3,.int .i64 i)]) (fun i=>i<=f.length/\fj n (f.take i)=true) (fun i=>f.length-i) 0 rfl ⟨Nat.zero_le _,rfl⟩ rfl ?_;rintro i ⟨hi,ha⟩;simp only[go_sem]
 (repeat'(first | (refine And.intro ?_ ?_) | intro))<;>(try(first | trivial | assumption | omega | (simp_all;done) | (simp_all;omega)))
 ·rename_i h1 h2
  symm;refine zo (d:=0) h1 ?_;simp only[Bool.or_eq_true,decide_eq_true_eq] at h2;simp only[Bool.and_eq_false_iff,decide_eq_false_iff_not];omega
 ·rename_i h1 h2
  simp only[Bool.or_eq_false_iff,decide_eq_false_iff_not] at h2;exact⟨i+1,⟨by omega,zn (d:=0) h1 ha (by simp only[Bool.and_eq_true,decide_eq_true_eq];omega)⟩,by omega,by rw[aU h1 hw]⟩
 ·rename_i h1
  exact(zm (by omega) ha).symm
def yg:List Nat:=[0,1,4,6,7,8,9]
def D2:Sl:=al Try.types Try.f54 yg []
theorem Kn:aX Try.prog Try.f54 yg D2 2=true:=by decide +kernel
theorem Be{y n:Int}(hn : -4611686018427387904<=n)(hn2:n<=9223372036854775807):fh y 0 (IntKind.i64.wrap (n-1))=(decide (0<=y)&&decide (y<n)):=by
 unfold fh;rw[oQ ⟨by simp[IntKind.min,IntKind.signed,IntKind.bits];omega,by simp[IntKind.max,IntKind.signed,IntKind.bits];omega⟩];congr 1;exact decide_eq_decide.2 ⟨fun h=>by omega,fun h=>by omega⟩
theorem wX(n:Int)(f:List Int)(hn : 0<=n):aD Try.prog 54 [.v (ints f),.v (.int .i64 n)] (.bool (fj n f)):=by
 refine jk fun hw=>?_
 simp only[eJ,jr,D.eZ,IntKind.has,IntKind.max,IntKind.signed,IntKind.bits] at hw;obtain⟨⟨hw,-⟩,⟨-,hn2⟩,-⟩:=hw;have hp:=fun y=>Be (y:=y) (n:=n) (by omega) (by simpa using hn2)
 refine a7 Try.func54 Kn ?_;unfold D2 al yg;simp only[go_sem];refine ba [3] (fun(i:Nat)=>[(6,.int .i64 i)]) (fun i=>i<=f.length/\fj n (f.take i)=true) (fun i=>f.length-i) 0 rfl ⟨Nat.zero_le _,rfl⟩ rfl ?_;rintro i ⟨hi,ha⟩;simp only[go_sem];refine⟨fun h=>⟨h,aC (wV _ _ _) rfl (.inl rfl) ?_⟩,fun h=>(zm (by omega) ha).symm⟩;simp only[go_sem];rw[hp];refine⟨fun h2=>?_,fun h2=>⟨i+1,⟨by omega,zn (d:=0) h ha (by simpa using h2)⟩,by omega,by rw[aU h hw]⟩⟩;exact(zo (d:=0) h (by rw[Bool.not_eq_true'] at h2;exact h2)).symm
def yI:List Nat:=[0,1,2,6]
def Ev:Sl:=al Try.types Try.f44 yI []
theorem KP:aX Try.prog Try.f44 yI Ev 3=true:=by decide +kernel
theorem Dx(l:List Int)(n ob:Int):aD Try.prog 44 [.v (ints l),.v (.int .i64 n),.v (.int .i64 ob)] (.bool ((l.length:Int) == n&&fj ob l)):=by
 refine a7 Try.func44 KP ?_;unfold Ev al yI;simp only[go_sem];refine dx (fun h=>td ob l) rfl (fun h=>by simp[h]) (.inl rfl) ?_;simp only[go_sem]
def xS:List Nat:=[0,2]
def DJ:Sl:=al Try.types Try.f36 xS []
theorem J4:aX Try.prog Try.f36 xS DJ 1=true:=by decide +kernel
theorem sY(c:Cat):aD Try.prog 36 [.v (.ptr c.cells)] (.int .i64 c.fr.length):=by
 refine a7 Try.func36 J4 ?_;unfold DJ al xS;simp only[go_sem]
def xU:List Nat:=[0,1,4]
def DL:Sl:=al Try.types Try.f55 xU []
theorem J6:aX Try.prog Try.f55 xU DL 2=true:=by decide +kernel
theorem Ds(c:Cat)(f:Int)(h0 : 0<=f)(h1:f<c.fr.length)(h2:f<c.to.length):aD Try.prog 55 [.v (.ptr c.cells),.v (.int .i64 f)] (.agg [.int .i64 (c.fr.getD f.toNat 0),.int .i64 (c.to.getD f.toNat 0)]):=by
 refine a7 Try.func55 J6 ?_;unfold DL al xU;simp only[go_sem];exact⟨⟨h0,h1⟩,h0,h2⟩
def x5:List Nat:=[0,1,2,6]
def DR:Sl:=al Try.types Try.f42 x5 []
theorem Kc:aX Try.prog Try.f42 x5 DR 3=true:=by decide +kernel
theorem qv(c:Cat)(f g:Int)(h0 : 0<=f)(h1:f<c.co.length)(h2 : 0<=g)(h3:g<(c.co.getD f.toNat []).length):aD Try.prog 42 [.v (.ptr c.cells),.v (.int .i64 f),.v (.int .i64 g)] (.int .i64 ((c.co.getD f.toNat []).getD g.toNat 0)):=by
 refine a7 Try.func42 Kc ?_;unfold DR al x5;simp only[go_sem];exact⟨⟨h0,h1⟩,h2,h3⟩
end Go.D3
namespace Go.D3
open Go Proofs
set_option maxHeartbeats 4000000
set_option maxRecDepth 100000
def yG:List Nat:=[0,1,4,5]
def Et:Sl:=al Try.types Try.f61 yG []
theorem KN:aX Try.prog Try.f61 yG Et 2=true:=by decide +kernel
theorem qw(a b:List Int)(hl:a.length<=1048576):aD Try.prog 61 [.v (ints a),.v (ints b)] (.bool (a == b)):=by
 refine a7 Try.func61 KN ?_;unfold Et al yG;simp only[go_sem];refine⟨fun h=>?_,fun h=>?_⟩
 ·have:a≠b:=fun e=>by subst e;simp at h
  simpa using this
 have hab:a.length=b.length:=by simp at h;omega
 refine ba [] (fun i:Nat=>[(3,.int .i64 i)]) (fun i=>i<=a.length/\∀j,j<i->a.getD j 0=b.getD j 0) (fun i=>a.length-i) 0 (by simp only[go_sem];rfl) ⟨Nat.zero_le _,fun j hj=>by omega⟩ rfl ?_;rintro i ⟨hi,hs⟩;simp only[go_sem];refine⟨fun h1=>⟨h1,by omega,fun h2=>?_,fun h2=>⟨i+1,⟨by omega,fun j hj=>?_⟩,by omega,by rw[aU h1 (by simp only[maxLen];omega)]⟩⟩,fun h1=>?_⟩
 ·have:a≠b:=fun e=>by subst e;simp at h2
  simpa using this
 ·by_cases hji:j=i
  ·subst hji;simpa using h2
  ·exact hs j (by omega)
 ·have:a=b:=by
   apply List.ext_getElem hab;intro j h3 h4;have:=hs j (by omega)
   rwa [bT h3,bT h4] at this
  simpa using this
def dK(l:List (List Int))(x:List Int):Int:=if l.findIdx (·== x)<l.length then((l.findIdx (·== x):Nat):Int) else -1
end Go.D3
namespace Go.D3
def di(n:Nat)(p:Nat->Bool):Bool:=(List.range n).all p
theorem tW{n:Nat}{p:Nat->Bool}:di n p=true↔∀i,i<n->p i=true:=by simp[di]
theorem nB{n:Nat}{p:Nat->Bool}(h:di n p=true)(hp:p n=true):di (n+1) p=true:=by
 rw[tW] at *;intro i hi;by_cases h1:i<n
 ·exact h i h1
 ·rw[show i=n by omega];exact hp
theorem tY{n i:Nat}{p:Nat->Bool}(hi:i<n)(hp:p i=false):di n p=false:=by
 cases h:di n p with
 | false=>rfl
 | true=>rw[tW.1 h i hi] at hp;cases hp
theorem BN{n:Int}{l:List Int}:fj n l=true↔∀y∈l,0<=y/\y<n:=by simp[fj]
theorem vv{n:Int}{l:List Int}(h:fj n l=true){i:Nat}(hi:i<l.length) : 0<=l.getD i 0/\l.getD i 0<n:=by
 rw[bT hi];exact BN.1 h _ (List.getElem_mem hi)
def Cat.preB(c:Cat):Bool:=fh c.ob 0 8&&decide (c.fr.length<=40)&&fj c.ob c.fr&&((c.to.length:Int) == c.fr.length)&&fj c.ob c.to&&((c.co.length:Int) == c.fr.length)&&((c.aK.length:Int) == c.ob)&&fj c.fr.length c.aK
def Cat.jH(c:Cat)(x:Nat):Bool:=c.fr.getD (c.aK.getD x 0).toNat 0 == (x:Int)&&c.to.getD (c.aK.getD x 0).toNat 0 == (x:Int)
def Cat.cell(c:Cat)(f g:Nat):Int:=(c.co.getD f []).getD g 0
def Cat.fQ(c:Cat)(f g:Nat):Bool :=
 if c.to.getD f 0 != c.fr.getD g 0 then c.cell f g == -1
 else decide (0<=c.cell f g)&&decide (c.cell f g<c.fr.length)&&(c.fr.getD (c.cell f g).toNat 0 == c.fr.getD f 0)&&(c.to.getD (c.cell f g).toNat 0 == c.to.getD g 0)
def Cat.iz(c:Cat)(f:Nat):Bool:=((c.co.getD f []).length:Int) == c.fr.length&&di c.fr.length (c.fQ f)
def Cat.ga(c:Cat):Bool:=c.preB&&di c.aK.length c.jH&&di c.fr.length c.iz
structure Cat.Pre(c:Cat):Prop where
 iq : 0<=c.ob
 jU:c.ob<=8
 fr:c.fr.length<=40
 uY:fj c.ob c.fr=true
 to:c.to.length=c.fr.length
 xR:fj c.ob c.to=true
 co:c.co.length=c.fr.length
 aK:(c.aK.length:Int)=c.ob
 ve:fj c.fr.length c.aK=true
theorem Cat.CN{c:Cat}:c.preB=true↔c.Pre:=by
 simp only[Cat.preB,fh,Bool.and_eq_true,decide_eq_true_eq,beq_iff_eq];constructor
 ·rintro⟨⟨⟨⟨⟨⟨⟨⟨h1,h2⟩,h3⟩,h4⟩,h5⟩,h6⟩,h7⟩,h8⟩,h9⟩
  exact⟨h1,h2,h3,h4,by omega,h6,by omega,h8,h9⟩
 ·rintro⟨h1,h2,h3,h4,h5,h6,h7,h8,h9⟩
  exact⟨⟨⟨⟨⟨⟨⟨⟨h1,h2⟩,h3⟩,h4⟩,by omega⟩,h6⟩,by omega⟩,h8⟩,h9⟩
structure Cat.Shape(c:Cat):Prop extends Cat.Pre c where
 ids:∀x,x<c.aK.length->c.jH x=true
 row:∀f,f<c.fr.length->(c.co.getD f []).length=c.fr.length
 cells:∀f g,f<c.fr.length->g<c.fr.length->c.fQ f g=true
theorem Cat.tp{c:Cat}:c.ga=true↔c.Shape:=by
 simp only[Cat.ga,Cat.iz,Bool.and_eq_true,tW,Cat.CN,beq_iff_eq];constructor
 ·rintro⟨⟨h1,h2⟩,h3⟩
  exact⟨h1,h2,fun f hf=>by have:=(h3 f hf).1;omega,fun f g hf hg=>(h3 f hf).2 g hg⟩
 ·rintro⟨h1,h2,h3,h4⟩
  exact⟨⟨h1,h2⟩,fun f hf=>⟨by have:=h3 f hf;omega,fun g hg=>h4 f g hf hg⟩⟩
theorem Cat.Pre.rL{c:Cat}(h:c.Pre):c.aK.length<=8:=by have:=h.aK;have:=h.jU;omega
theorem Cat.Pre.idx{c:Cat}(h:c.Pre){x:Nat}(hx:x<c.aK.length) : 0<=c.aK.getD x 0/\c.aK.getD x 0<c.fr.length:=vv h.ve hx
theorem Cat.B9{c:Cat}{x:Nat}(hx:x<c.aK.length)(h:c.jH x=false):c.ga=false:=by
 unfold Cat.ga;rw[tY hx h];simp
theorem Cat.vH{c:Cat}{f:Nat}(hf:f<c.fr.length)(h:c.iz f=false):c.ga=false:=by
 unfold Cat.ga;rw[tY hf h];simp
theorem Cat.ss{c:Cat}{f g:Nat}(hf:f<c.fr.length)(hg:g<c.fr.length)(h:c.fQ f g=false):c.ga=false:=by
 refine Cat.vH hf ?_;unfold Cat.iz;rw[tY hg h];simp
theorem Cat.Bl{c:Cat}(hp:c.Pre)(h1:di c.aK.length c.jH=true)(h2:di c.fr.length c.iz=true):c.ga=true:=by
 unfold Cat.ga;rw[h1,h2,Cat.CN.2 hp];rfl
theorem Cat.su{c:Cat}(h:¬c.Pre):c.ga=false:=by
 cases hs:c.ga with
 | false=>rfl
 | true=>exact absurd (Cat.tp.1 hs).toPre h
end Go.D3
