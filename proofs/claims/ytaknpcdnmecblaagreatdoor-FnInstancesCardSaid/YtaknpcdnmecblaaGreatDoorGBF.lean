/- CONTRACTS: the category of the paths of a small graph, the reference's side. -/
import Derived.Test.YtaknpcdnmecblaaGreatDoorGAX
import Derived.Test.YtaknpcdnmecblaaGreatDoorGBD
import Derived.Test.YtaknpcdnmecblaaGreatDoorGAJ
namespace Go.D3
open Go Proofs
set_option maxHeartbeats 4000000
set_option maxRecDepth 100000
def Lp.cells(x:Lp):List D:=[.int .i64 x.fr,.int .i64 x.to,ints x.ed]
def Lp.d(x:Lp):D:=.agg x.cells
theorem aab:D.slice (.agg [.int .i64 0,.int .i64 0,ints []]) []=ae Lp.d Lp.zero []:=rfl
theorem XF{n:Nat}:D.slice (.agg [.int .i64 0,.int .i64 0,ints []]) (List.replicate n (.agg [.int .i64 0,.int .i64 0,ints []]))=ae Lp.d Lp.zero (List.replicate n Lp.zero):=by unfold ae;rw[List.map_replicate];rfl
theorem ZL{l:List Lp}{i:Nat}{fr:Int}{to:Int}{ed:List Int}:df (.o (ae Lp.d Lp.zero l)) [(i,0)] 0 [.int .i64 fr,.int .i64 to,ints ed]=.o (ae Lp.d Lp.zero (l.set i ⟨fr,to,ed⟩)):=mf (n:=3) (fun _=>⟨_,rfl,rfl⟩) rfl
attribute [go_sem] Lp.cells.eq_1 Lp.d.eq_1 aab XF
theorem Oc{l:List Lp}{fr:Int}{to:Int}{ed:List Int}:(ae Lp.d Lp.zero l).dh [.agg [.int .i64 fr,.int .i64 to,ints ed]]=ae Lp.d Lp.zero (l++[⟨fr,to,ed⟩]):=kO (f:=Lp.d) (x:=⟨fr,to,ed⟩)
attribute [go_sem high] ZL Oc
theorem Tu(x:Lp):x.d.bA=true:=by simp only[Lp.d,Lp.cells,D.bA,eR,bJ,Bool.and_self]
theorem Hk:∀{a b:List Int},lexB a b=wa a b
 | [],[]=>rfl
 | [],_::_=>rfl
 | _::_,[]=>rfl
 | a::l,b::r=>by
  unfold lexB wa;rw[Hk]
def DC:List Nat:=[0,1,4,2,3]
def LI:Sl:=ah Tryz.types Tryz.f275 DC []
theorem Vi:aE Tryz.prog Tryz.f275 DC LI 2=true:=by decide +kernel
theorem YW(a b:Lp)(S:a.ed.length<=1048576):aA Tryz.prog 275 [.v a.d,.v b.d] (.bool (nP a b)):=by
 refine aQ Tryz.func275 Vi ?_;unfold LI ah DC;simp only[go_sem];refine⟨fun h=>by(unfold nP;rw[if_pos (by simpa using h)]),fun h=>⟨fun I=>by(unfold nP;rw[if_neg (by simpa using h),if_pos (by simpa using I)]),fun I=>aj (JB a.ed b.ed S) rfl (.inl rfl) ?_⟩⟩;simp only[go_sem];unfold nP;rw[if_neg (by simpa using h),if_neg (by simpa using I),Hk]
theorem Ht{r:List Lp}{j:Nat}:(r.map Lp.d).getD j (D.agg [D.int .i64 Lp.zero.fr,D.int .i64 Lp.zero.to,ints Lp.zero.ed])=D.agg [D.int .i64 (r.getD j Lp.zero).fr,D.int .i64 (r.getD j Lp.zero).to,ints (r.getD j Lp.zero).ed]:=getD_map' _ _ _ _
theorem QJ{n:Nat}:kI (n+1)=kI n++[⟨n,n,[]⟩]:=gw
theorem GL{n:Nat}:(kI n).length=n:=by simp[kI]
theorem N2{F T:List Int}{L:List Lp}{k:Nat}(h:¬(k<L.length/\L.length<=40)):∀{m:Nat},lH F T m L k=L
 | 0=>rfl
 | m+1=>by rw[lH,if_neg h]
theorem ext_mem{F T:List Int}{p q:Lp}{e:Nat}(h:q∈gP F T p e):q.fr=p.fr/\q.ed.length=p.ed.length+1:=by
 unfold gP at h;obtain⟨i,_,rfl⟩:=List.mem_map.1 h;exact⟨rfl,by simp⟩
def dP(n k:Nat)(L:List Lp):Prop:=∀q∈L,q.ed.length<=k/\0<=q.fr/\q.fr<n
theorem dP.mono{n k m:Nat}{L:List Lp}(h:dP n k L)(hk:k<=m):dP n m L:=fun q I=>⟨Nat.le_trans (h q I).1 hk,(h q I).2⟩
theorem dP.GK{n:Nat}:dP n 0 (kI n):=fun q I=>by
 unfold kI at I;obtain⟨x,S,rfl⟩:=List.mem_map.1 I;have:=List.mem_range.1 S;exact⟨Nat.le_refl _,by show(0:Int)<=(x:Int);omega,by show(x:Int)<n;omega⟩
theorem dP.at'{n k i:Nat}{L:List Lp}(h:dP n k L)(hi:i<L.length):(L.getD i Lp.zero).ed.length<=k/\0<=(L.getD i Lp.zero).fr/\(L.getD i Lp.zero).fr<n:=h _ (by rw[aM hi];exact List.getElem_mem _)
theorem dP.ext{n k i e:Nat}{F T:List Int}{L:List Lp}(h:dP n k L)(hi:i<L.length):dP n (k+1) (L++gP F T (L.getD i Lp.zero) e):=fun q I=>by
 rcases List.mem_append.1 I with I | I
 ·exact(h.mono (Nat.le_succ k)) q I
 ·have h1:=ext_mem I
  have S:=h.at' hi;rw[h1.1,h1.2];exact⟨by omega,S.2⟩
def DB:List Nat:=[0,1,2,6,7,8,9,10,11,12,13]
def LG:Sl:=ah Tryz.types Tryz.f256 DB []
theorem Vh:aE Tryz.prog Tryz.f256 DB LG 3=true:=by decide +kernel
theorem YV(n:Nat)(F T:List Int)(hn:n<=8)(hF:F.length<=20)(hT:T.length=F.length):aA Tryz.prog 256 [.v (.int .i64 n),.v (ints F),.v (ints T)] (ae Lp.d Lp.zero (oI n F T)):=by
 refine aQ Tryz.func256 Vh ?_;unfold LG ah DB;simp only[go_sem];refine au [] (fun i:Nat=>[(5,.int .i64 i),(4,.o (ae Lp.d Lp.zero (kI i)))]) (fun i=>i<=n) (fun i=>n-i) 0 (by simp only[go_sem];rfl) (Nat.zero_le _) rfl ?_;intro i hi;have li:=@GL i;simp only[go_sem];refine⟨fun h=>?_,fun h=>?_⟩
 ·refine⟨by omega,i+1,by omega,by omega,?_⟩
  rw[aw (show i<n by omega) (by simp only[maxLen];omega),QJ]
 obtain rfl:i=n:=by omega
 refine au [7] (fun p:Nat×List Lp=>[(6,.int .i64 p.1),(4,.o (ae Lp.d Lp.zero p.2))]) (fun p=>p.1<=40/\p.1<=p.2.length/\p.2.length<=60/\dP i p.1 p.2/\lH F T (41-p.1) p.2 p.1=lH F T 41 (kI i) 0) (fun p=>41-p.1) (0,kI i) (by simp only[go_sem];rfl) ⟨Nat.zero_le _,Nat.zero_le _,by show(kI i).length<=60;omega,.GK,rfl⟩ rfl ?_;rintro⟨k,L⟩ ⟨hk,a6,hL,hI,hA⟩;simp only at hk a6 hL hI hA;simp only[go_sem];refine⟨fun h1=>?_,fun h1=>?_⟩
 ·simp only[Bool.and_eq_true,decide_eq_true_eq] at h1
  have W:k<L.length/\L.length<=40:=⟨h1.1,by omega⟩;obtain⟨P,hP⟩:∃P,P=L.getD k Lp.zero:=⟨_,rfl⟩;refine au [] (fun e:Nat=>[(7,.int .i64 e),(4,.o (ae Lp.d Lp.zero (L++gP F T P e)))]) (fun e=>e<=F.length) (fun e=>F.length-e) 0 (by simp only[go_sem];rfl) (Nat.zero_le _) (by simp only[gP,List.range_zero,List.filter_nil,List.map_nil,List.append_nil];rfl) ?_;intro e he;have hg:(L++gP F T P e).getD k Lp.zero=P:=by rw[fF W.1];exact hP.symm
  have le:=@F9 F T P e;have lL:(L++gP F T P e).length=L.length+(gP F T P e).length:=List.length_append;simp only[go_sem];rw[hg];have a7:=hI.at' W.1;rw[<-hP] at a7;have hw:e<F.length->IntKind.i64.wrap ((e:Int)+1)=((e+1:Nat):Int):=fun h=>aw h (by simp only[maxLen];omega)
  refine⟨fun I=>⟨I,by omega,by omega,fun h4=>⟨by omega,by omega,by omega,by omega,by omega,aj (eE P.ed (by omega)) rfl (.inl (bJ _)) ?_⟩,fun h4=>⟨e+1,by omega,by omega,?_⟩⟩,fun I=>?_⟩
  ·simp only[go_sem]
   refine⟨by omega,by omega,e+1,by omega,by omega,?_⟩;rw[hw I,Ga,if_pos h4,List.append_assoc]
  ·rw[hw I,Ga,if_neg (by simpa using h4),List.append_nil]
  ·obtain rfl:e=F.length:=by omega
   refine⟨(k+1,L++gP F T P F.length),⟨by simp only;omega,by simp only;omega,by simp only;omega,by simp only;rw[hP];exact hI.ext W.1,?_⟩,by simp only;omega,?_⟩
   ·simp only
    rw[<-hA,show 41-k=(41-(k+1))+1 by omega,lH,if_pos W,hP]
   ·simp only
    rw[aw (show k<41 by omega) (by simp only[maxLen];omega)]
 have W:¬(k<L.length/\L.length<=40):=fun h=>by
  simp only[Bool.and_eq_false_iff,decide_eq_false_iff_not] at h1;omega
 rw[N2 W] at hA;have hB:oI i F T=nA L L.length:=by unfold oI;simp only;rw[<-hA]
 have hI:=hI.mono hk;clear hA h1 W a6 hk;rw[hB];refine au [9,10] (fun p:Nat×List Lp=>[(8,.int .i64 p.1),(4,.o (ae Lp.d Lp.zero p.2))]) (fun p=>1<=p.1/\p.1<=max 1 L.length/\p.2=nA L p.1/\p.2.length=L.length/\dP i 40 p.2) (fun p=>max 1 L.length-p.1) (1,L) (by simp only[go_sem];rfl) ⟨Nat.le_refl _,by simp only;omega,rfl,rfl,hI⟩ rfl ?_;rintro⟨j,M⟩ ⟨a8,hj,hM,ax,ao⟩;simp only at a8 hj hM ax ao;simp only[go_sem];refine⟨fun h1=>?_,fun h1=>?_⟩
 ·refine au [10] (fun p:Nat×List Lp=>[(9,.int .i64 p.1),(4,.o (ae Lp.d Lp.zero p.2))]) (fun p=>p.1<=j/\lp p.2 p.1=lp M j/\p.2.length=L.length/\dP i 40 p.2) (fun p=>p.1) (j,M) (by simp only[go_sem];rfl) ⟨Nat.le_refl _,rfl,ax,ao⟩ rfl ?_
  rintro⟨k,r⟩ ⟨hk,hr,ag,S⟩;simp only at hk hr ag S;simp only[go_sem];have wk : 0<(k:Int)->IntKind.i64.wrap ((k:Int)-1)=((k-1:Nat):Int):=fun h=>by rw[wrap_small (by omega) (by omega)];omega
  refine⟨fun I=>⟨I,by omega⟩,fun I=>⟨I,by omega⟩,fun I=>⟨I,by rw[wk I];omega⟩,fun I=>⟨I,by rw[wk I];omega⟩,?_⟩
  refine bf (fun I=>YW (r.getD k Lp.zero) (r.getD (IntKind.i64.wrap ((k:Int)-1)).toNat Lp.zero) (by
   have I : 0<(k:Int):=by simpa using I
   have:=(S.at' (i:=k) (by omega)).1
   omega)) rfl (fun h=>h) (.inl rfl) ?_
  simp only[go_sem]
  have ad : 0<k->nP (r.getD k Lp.zero) (r.getD (IntKind.i64.wrap ((k:Int)-1)).toNat Lp.zero)=nP (r.getD k Lp.zero) (r.getD (k-1) Lp.zero):=fun h=>by
   rw[wk (by omega),Int.toNat_natCast]
  generalize nP (r.getD k Lp.zero) (r.getD (IntKind.i64.wrap ((k:Int)-1)).toNat Lp.zero)=lx at ad;refine⟨fun I=>?_,fun I=>⟨(j+1,r),⟨by simp only;omega,by simp only;omega,?_,ag,S⟩,by simp only;omega,by rw[aw h1 (by simp only[maxLen];omega)]⟩⟩
  rotate_left
  ·simp only
   have e1:lp r k=r:=by
    cases k with
    | zero=>rfl
    | succ k =>
     rw[lp,if_neg];have:=ad (Nat.succ_pos k);rw[Nat.add_sub_cancel] at this;rw[<-this];simpa using I
   rw[e1] at hr;obtain⟨j,rfl⟩:∃m,j=m+1:=⟨j-1,by omega⟩;rw[hr,nA,hM]
  simp only[Bool.and_eq_true,decide_eq_true_eq] at I;obtain⟨a1,ab⟩:=I;rw[ad (by omega)] at ab;have V:k-1≠k:=by omega
  have Z:k<r.length:=by omega
  have Y:k-1<r.length:=by omega
  simp only[wk a1,Int.toNat_natCast,List.length_set,List.length_map,vN,rB V,Ht,Z,Y];simp only[go_sem,wk a1,Int.toNat_natCast,List.length_set,List.length_map,vN,rB V,rB (Ne.symm V),Ht,Z,Y];have m1:r.getD k Lp.zero∈r:=by rw[aM Z];exact List.getElem_mem _
  have m2:r.getD (k-1) Lp.zero∈r:=by rw[aM Y];exact List.getElem_mem _
  refine⟨(k-1,(r.set k (r.getD (k-1) Lp.zero)).set (k-1) (r.getD k Lp.zero)),⟨by simp only;omega,?_,by simp only[List.length_set];exact ag,fun q hq=>?_⟩,by simp only;omega,?_⟩
  ·simp only
   obtain⟨m,rfl⟩:∃m,k=m+1:=⟨k-1,by omega⟩;rw[Nat.add_sub_cancel] at ab;rw[<-hr,lp,if_pos ab];rfl
  ·rcases List.mem_or_eq_of_mem_set hq with hq | rfl
   ·rcases List.mem_or_eq_of_mem_set hq with hq | rfl
    ·exact S q hq
    ·exact S _ m2
   ·exact S _ m1
  ·simp only[List.set_set]
   rw[List.set_comm _ _ V,List.set_set,List.set_set];simp only[ae,List.map_set];rfl
 ·have e1:M=nA L L.length:=by
   rw[hM];by_cases h:L.length=0
   ·rw[show j=1 by omega,h];rfl
   ·rw[show j=L.length by omega]
  rw[e1]
end Go.D3
namespace Go.D3
open Go Proofs
set_option maxHeartbeats 4000000
set_option maxRecDepth 100000
theorem Ey{n:Nat}{F T:List Int}:∀{m k:Nat}{L:List Lp},dP n k L->L.length<=40+F.length->(lH F T m L k).length<=40+F.length/\dP n (k+m) (lH F T m L k)
 | 0,_,_,h,I=>⟨I,h⟩
 | m+1,k,L,h,I=>by
  rw[lH];split
  ·rename_i W
   have V:(L++gP F T (L.getD k Lp.zero) F.length).length<=40+F.length:=by rw[List.length_append];have:=@F9 F T (L.getD k Lp.zero) F.length;omega
   have S:=Ey (T:=T) (m:=m) (h.ext (F:=F) (T:=T) (e:=F.length) W.1) V;rw[show k+(m+1)=k+1+m by omega];exact S
  ·exact⟨I,h.mono (Nat.le_add_right _ _)⟩
theorem MA:∀{k:Nat}{L:List Lp},(lp L k).length=L.length
 | 0,_=>rfl
 | k+1,L=>by
  rw[lp];split
  ·rw[MA,List.length_set,List.length_set]
  ·rfl
theorem dP.ZE{n m i j:Nat}{L:List Lp}(h:dP n m L)(hi:i<L.length)(S:j<L.length):dP n m ((L.set i (L.getD j Lp.zero)).set j (L.getD i Lp.zero)):=fun q I=>by
 rcases List.mem_or_eq_of_mem_set I with I | rfl
 ·rcases List.mem_or_eq_of_mem_set I with I | rfl
  ·exact h q I
  ·exact h.at' S
 ·exact h.at' hi
theorem MB{n m:Nat}:∀{k:Nat}{L:List Lp},dP n m L->k<L.length->dP n m (lp L k)
 | 0,_,h,_=>h
 | k+1,L,h,hk=>by
  rw[lp];split
  ·exact MB (h.ZE hk (by omega)) (by rw[List.length_set,List.length_set];omega)
  ·exact h
theorem MF{n m:Nat}{L:List Lp}(h:dP n m L):∀{i:Nat},i<=L.length->(nA L i).length=L.length/\dP n m (nA L i)
 | 0,_=>⟨rfl,h⟩
 | 1,_=>⟨rfl,h⟩
 | i+2,hi=>by
  have h1:=MF h (i:=i+1) (by omega);rw[nA];exact⟨by rw[MA];exact h1.1,MB h1.2 (by rw[h1.1];omega)⟩
theorem W4{n:Nat}{F T:List Int}(S:n<=8)(hF:F.length<=20):(oI n F T).length<=60/\dP n 41 (oI n F T):=by
 have h1:=Ey (F:=F) (T:=T) (m:=41) (dP.GK (n:=n)) (by rw[GL];omega);rw[Nat.zero_add] at h1;have I:=MF h1.2 (Nat.le_refl _);exact⟨by unfold oI;simp only;rw[I.1];omega,I.2⟩
theorem zk{L:List Lp}{I:List Int}:∀{k:Nat},(mP L k I).length=I.length
 | 0=>rfl
 | k+1=>by
  rw[mP];split
  ·rw[List.length_set,zk]
  ·exact zk
def Ds:List Nat:=[0,2,1]
def Lv:Sl:=ah Tryz.types Tryz.f154 Ds []
theorem U8:aE Tryz.prog Tryz.f154 Ds Lv 1=true:=by decide +kernel
theorem JF(c:af):aA Tryz.prog 154 [.v c.d] (.bool (decide (c.ob<=8)&&decide ((c.fr.length:Int)<=40))):=by
 refine aQ Tryz.func154 U8 ?_;unfold Lv ah Ds;simp only[go_sem]
def IJ(L:List Lp)(i:Nat):List Int:=(List.range L.length).map (rb L i)
def DG:List Nat:=[0,1,2,6,7,8,9,10,11,12,13,14,15]
def LN:Sl:=ah Tryz.types Tryz.f213 DG []
theorem Vm:aE Tryz.prog Tryz.f213 DG LN 3=true:=by decide +kernel
theorem Be(n:Nat)(F T:List Int)(hn:n<=8)(hF:F.length<=20)(hT:T.length=F.length):aA Tryz.prog 213 [.v (.int .i64 n),.v (ints F),.v (ints T)] (nu n F T).d:=by
 obtain⟨L,hL⟩:∃L,L=oI n F T:=⟨_,rfl⟩;have ab:=W4 (T:=T) hn hF;rw[<-hL] at ab;obtain⟨ag,V⟩:=ab;unfold nu;rw[<-hL];have hA:=YV n F T hn hF hT;rw[<-hL] at hA;refine aQ Tryz.func213 Vm ?_;unfold LN ah DG;simp only[go_sem];refine aj hA rfl (.inl (p9 Tu _)) ?_;simp only[go_sem];refine⟨⟨Nat.le_refl _,by omega⟩,?_⟩;refine au [] (fun i:Nat=>[(6,.int .i64 i),(5,gj n ((L.take i).map Lp.fr) ((L.take i).map Lp.to) (mP L i (List.replicate n 0)) [])]) (fun i=>i<=L.length) (fun i=>L.length-i) 0 (by simp only[go_sem];rfl) (Nat.zero_le _) rfl ?_;intro i hi;have lI:(mP L i (List.replicate n 0)).length=n:=by rw[zk,List.length_replicate]
 have l1:((L.take i).map Lp.fr).length=i:=by rw[List.length_map,List.length_take];omega
 have l2:((L.take i).map Lp.to).length=i:=by rw[List.length_map,List.length_take];omega
 simp only[go_sem];refine⟨fun h=>?_,fun h=>?_⟩
 ·have hq:=V.at' h
  have hw:=aw h (show L.length<=maxLen by simp only[maxLen];omega);refine⟨h,h,by omega,h,h,by omega,h,h,fun h1=>⟨h,h,by omega,by omega,i+1,by omega,by omega,?_⟩,fun h1=>⟨i+1,by omega,by omega,?_⟩⟩
  ·rw[hw,b7 h Lp.zero,mP,List.map_append,List.map_append]
   rw[if_pos (List.length_eq_zero_iff.1 (by omega))];rfl
  ·rw[hw,b7 h Lp.zero,mP,List.map_append,List.map_append]
   rw[if_neg (fun e=>by rw[e] at h1;cases h1)];rfl
 obtain rfl:i=L.length:=by omega
 rw[List.take_length] at l1 l2|-
 generalize hI:mP L L.length (List.replicate n 0)=I;refine aj (JF ⟨n,L.map Lp.fr,L.map Lp.to,I,[]⟩) rfl (.inl rfl) ?_;simp only[go_sem];refine⟨fun h1=>?_,fun h1=>?_⟩
 ·have h1:¬(n<=8/\L.length<=40):=fun h=>by
   simp[List.length_map] at h1;omega
  rw[if_neg h1]
 have h1:n<=8/\L.length<=40:=by
  simp[List.length_map] at h1;omega
 rw[if_pos h1];refine au [8,9,10,11,12] (fun i:Nat=>[(7,.int .i64 i),(5,gj n (L.map Lp.fr) (L.map Lp.to) I ((List.range i).map (IJ L)))]) (fun i=>i<=L.length) (fun i=>L.length-i) 0 (by simp only[go_sem];rfl) (Nat.zero_le _) rfl ?_;intro i hi;have li:((List.range i).map (IJ L)).length=i:=by simp
 simp only[go_sem];refine⟨fun S=>?_,fun S=>?_⟩
 ·have hq:=V.at' S
  refine au [10,11,12] (fun j:Nat=>[(9,.int .i64 j),(8,.o (ints ((List.range j).map (rb L i))))]) (fun j=>j<=L.length) (fun j=>L.length-j) 0 (by simp only[go_sem];rfl) (Nat.zero_le _) rfl ?_;intro j hj;have lj:((List.range j).map (rb L i)).length=j:=by simp
  simp only[go_sem];refine⟨fun W=>?_,fun W=>?_⟩
  ·have hr:=V.at' W
   have hw:=aw W (show L.length<=maxLen by simp only[maxLen];omega);refine⟨S,S,W,W,fun h4=>⟨S,S,aj (eE (L.getD i Lp.zero).ed (by omega)) rfl (.inl (bJ _)) ?_⟩,fun h4=>⟨by omega,j+1,by omega,by omega,?_⟩⟩
   ·simp only[go_sem]
    refine⟨W,W,oP _,by rw[List.length_map];omega,?_⟩;refine au [] (fun k:Nat=>[(12,.int .i64 k),(10,.int .i64 (tn L (L.getD i Lp.zero).fr ((L.getD i Lp.zero).ed++(L.getD j Lp.zero).ed) k))]) (fun k=>k<=L.length) (fun k=>L.length-k) 0 (by simp only[go_sem];rfl) (Nat.zero_le _) rfl ?_;intro k hk;simp only[go_sem];refine⟨fun Y=>?_,fun Y=>?_⟩
    ·have hs:=V.at' Y
     have ad:=aw Y (show L.length<=maxLen by simp only[maxLen];omega);refine⟨Y,Y,S,S,fun h6=>⟨h6,Y⟩,fun h6=>⟨h6,Y⟩,?_⟩;refine bf (fun _=>ss _ _ (by omega)) rfl (fun h=>h) (.inl rfl) ?_;simp only[go_sem];refine⟨fun Z=>⟨k+1,by omega,by omega,?_⟩,fun Z=>⟨k+1,by omega,by omega,?_⟩⟩
     ·simp only[Bool.and_eq_true,beq_iff_eq] at Z
      rw[ad,tn,if_pos Z]
     ·rw[ad,tn,if_neg (fun h=>by rw[h.1,h.2,beq_self_eq_true,beq_self_eq_true] at Z;cases Z)]
    ·obtain rfl:k=L.length:=by omega
     refine⟨by omega,j+1,by omega,by omega,?_⟩;rw[hw,gw,rb,if_pos h4]
   ·rw[hw,gw,rb,if_neg (by simpa using h4)]
  ·obtain rfl:j=L.length:=by omega
   refine⟨by omega,i+1,by omega,by omega,?_⟩;rw[aw S (by simp only[maxLen];omega),gw];rfl
 ·obtain rfl:i=L.length:=by omega
  rfl
end Go.D3
