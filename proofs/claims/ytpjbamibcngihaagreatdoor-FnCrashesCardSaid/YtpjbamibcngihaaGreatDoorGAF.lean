/- DATA OF SCHEMAS: changes. Plain laws; the program's (*data).apply. -/
import Derived.Test.YtpjbamibcngihaaGreatDoorGAE
namespace Go.D3
open Go
set_option maxHeartbeats 4000000
set_option maxRecDepth 100000
def eD(fr:List Int)(x:Int)(i:Nat):List Int:=((List.range i).filter fun e=>fr.getD e 0 == x) |>.map fun e:Nat=>(e:Int)
theorem rz{fr:List Int}{x:Int}{i:Nat}:eD fr x (i+1)=eD fr x i++(if fr.getD i 0=x then[(i:Int)] else[]):=by
 unfold eD;rw[List.range_succ,List.filter_append,List.map_append];congr 1;by_cases h:fr.getD i 0=x
 ·rw[if_pos h,List.filter_cons_of_pos (by simpa using h)];rfl
 ·rw[if_neg h,List.filter_cons_of_neg (by simpa using h)];rfl
theorem Gu{fr:List Int}{x:Int}{i:Nat}:(eD fr x i).length<=i:=by
 unfold eD;rw[List.length_map];exact Nat.le_trans (List.length_filter_le _ _) (by simp)
def AD:List Nat:=[0,1,4,5,6,7,12,13,14]
def IB:Sl:=ak Go.Proofs.Tryz.types Go.Proofs.Tryz.f94 AD []
theorem QI:aF Go.Proofs.Tryz.prog Go.Proofs.Tryz.f94 AD IB 2=true:=by decide +kernel
theorem Un(s:aa)(x:Int)(h8:s.fr.length<=8):aC Go.Proofs.Tryz.prog 94 [.v (.ptr s.cells),.v (.int .i64 x)] (ints (eD s.fr x s.fr.length)):=by
 refine aQ Go.Proofs.Tryz.func94 QI ?_;unfold IB ak AD;simp only[go_sem];refine aE [4,5] (fun(i:Nat)=>[(8,.int .i64 i),(3,.o (ints (eD s.fr x i)))]) (fun i=>i<=s.fr.length) (fun i=>s.fr.length-i) 0 (by simp only[go_sem];rfl) (Nat.zero_le _) rfl ?_;intro i hi;simp only[go_sem];have hl:=Gu (fr:=s.fr) (x:=x) (i:=i);refine⟨fun h=>⟨h,fun h1=>⟨by omega,i+1,h,by omega,?_⟩,fun h1=>⟨i+1,h,by omega,?_⟩⟩,fun h=>by rw[show i=s.fr.length by omega]⟩
 ·rw[rz,if_pos (by simpa using Eq.symm (by simpa using h1)),aM h (by simp only[maxLen];omega)]
 ·rw[rz,if_neg (by simpa using Ne.symm (by simpa using h1)),List.append_nil,aM h (by simp only[maxLen];omega)]
def AN:List Nat:=[0,2]
def IL:Sl:=ak Go.Proofs.Tryz.types Go.Proofs.Tryz.f76 AN []
theorem QS:aF Go.Proofs.Tryz.prog Go.Proofs.Tryz.f76 AN IL 1=true:=by decide +kernel
theorem Ur(l:List Int):aC Go.Proofs.Tryz.prog 76 [.v (ints l)] (.bool (bV 17 l)):=by
 refine aQ Go.Proofs.Tryz.func76 QS ?_;unfold IL ak AN;simp only[go_sem];refine av (uZ 17 l (by decide)) rfl (.inl rfl) ?_;simp only[go_sem]
def iS(mp:List (List Int)):Int->List Int->Int
 | r,[]=>r
 | r,e::l=>iS mp ((mp.getD e.toNat []).getD r.toNat 0) l
def jD(mp:List (List Int)):Int->List Int->Prop
 | _,[]=>True
 | r,e::l=>(0<=e/\e<mp.length)/\(0<=r/\r<(mp.getD e.toNat []).length)/\jD mp ((mp.getD e.toNat []).getD r.toNat 0) l
theorem Fi{mp:List (List Int)}{l:List Int}{r:Int}{i:Nat}(h:i<l.length):iS mp r (l.drop i)=iS mp ((mp.getD (l.getD i 0).toNat []).getD r.toNat 0) (l.drop (i+1)) /\
  (jD mp r (l.drop i)->(0<=l.getD i 0/\l.getD i 0<mp.length)/\(0<=r/\r<(mp.getD (l.getD i 0).toNat []).length)/\jD mp ((mp.getD (l.getD i 0).toNat []).getD r.toNat 0) (l.drop (i+1))):=by
 rw[List.drop_eq_getElem_cons h,iS,jD,aS h];exact⟨rfl,id⟩
def AS:List Nat:=[0,1,2,6,8,9,10,11]
def IS:Sl:=ak Go.Proofs.Tryz.types Go.Proofs.Tryz.f80 AS []
theorem QY:aF Go.Proofs.Tryz.prog Go.Proofs.Tryz.f80 AS IS 3=true:=by decide +kernel
theorem HG(mp:List (List Int))(l:List Int)(r:Int)(hok:jD mp r l):aC Go.Proofs.Tryz.prog 80 [.v (aI mp),.v (ints l),.v (.int .i64 r)] (.int .i64 (iS mp r l)):=by
 refine ei fun hw=>?_
 simp only[dc,eW] at hw;have hl:l.length<=maxLen:=hw.2.1.1;refine aQ Go.Proofs.Tryz.func80 QY ?_;unfold IS ak AS;simp only[go_sem];refine aE [4] (fun(p:Nat×Int)=>[(2,.int .i64 p.2),(7,.int .i64 p.1)]) (fun p=>p.1<=l.length/\iS mp p.2 (l.drop p.1)=iS mp r l/\jD mp p.2 (l.drop p.1)) (fun p=>l.length-p.1) (0,r) (by simp only[go_sem];rfl) ⟨Nat.zero_le _,rfl,hok⟩ rfl ?_;rintro⟨i,y⟩ ⟨hi,ha,hb⟩;simp only[go_sem];simp only at hi ha hb;refine⟨fun h=>?_,fun h=>?_⟩
 ·obtain⟨e1,e2⟩:=Fi (mp:=mp) (r:=y) h
  obtain⟨b1,b2,b3⟩:=e2 hb;exact⟨h,b1,b2,(i+1,(mp.getD (l.getD i 0).toNat []).getD y.toNat 0),⟨h,e1▸ha,b3⟩,by show l.length-(i+1)<l.length-i;omega,by rw[aM h hl]⟩
 ·rw[show i=l.length by omega,List.drop_length] at ha
  rw[<-ha];rfl
def aa.kn(s:aa)(sz:List Int)(mp:List (List Int))(e:Nat):Bool:=((mp.getD e []).length:Int) == sz.getD (s.fr.getD e 0).toNat 0&&bV (sz.getD (s.to.getD e 0).toNat 0) (mp.getD e [])
def aa.gK(s:aa)(sz:List Int)(mp:List (List Int)):Bool:=((sz.length:Int) == s.nd&&bV 17 sz&&(mp.length == s.fr.length))&&(List.range mp.length).all (s.kn sz mp)
theorem ew{n:Int}{l:List Int}{i:Nat}(h:bV n l=true)(hi:i<l.length) : 0<=l.getD i 0/\l.getD i 0<n:=by
 unfold bV at h;have:=List.all_eq_true.1 h _ (List.getElem_mem hi);rw[aS hi];simpa using this
def AA:List Nat:=[0,1,2,6,7,8,31,32,33]
def Iz:Sl:=ak Go.Proofs.Tryz.types Go.Proofs.Tryz.f45 AA []
theorem QG:aF Go.Proofs.Tryz.prog Go.Proofs.Tryz.f45 AA Iz 3=true:=by decide +kernel
theorem zo(s:aa)(sz:List Int)(mp:List (List Int))(hs:s.fP=true):aC Go.Proofs.Tryz.prog 45 [.v (.ptr s.cells),.v (ints sz),.v (aI mp)] (.bool (s.gK sz mp)):=by
 have hs1:=hs;simp only[aa.fP,Bool.and_eq_true,decide_eq_true_eq] at hs1;obtain⟨h1,h2,hto,hf,ht⟩:=hs1;have hn : 0<=s.nd/\s.nd<=8:=by unfold aP at h1;simpa using h1
 refine aQ Go.Proofs.Tryz.func45 QG ?_;unfold Iz ak AA;simp only[go_sem];refine bt (fun _=>Ur sz) rfl (fun h=>h) (.inl rfl) ?_;simp only[go_sem]
 have e1:s.gK sz mp=(!(((sz.length:Int) != s.nd) || !bV 17 sz || ((mp.length:Int) != (s.fr.length:Int)))&&(List.range mp.length).all (s.kn sz mp)):=by
  unfold aa.gK
  have a2:(mp.length == s.fr.length)=!((mp.length:Int) != (s.fr.length:Int)):=by
   rw[Bool.eq_iff_iff];simp only[beq_iff_eq,Bool.not_eq_true',bne_eq_false_iff_eq];omega
  have a3:((sz.length:Int) == s.nd)=!((sz.length:Int) != s.nd):=by unfold bne;rw[Bool.not_not]
  rw[a2,a3,Bool.not_or,Bool.not_or,Bool.not_not]
 refine⟨fun h=>by simpa using h,(fun h=>by simp only[Bool.or_eq_false_iff,Bool.and_eq_true,Bool.not_eq_true',Bool.not_eq_false'] at h|-;exact h),fun h=>by rw[e1,h];rfl,fun h=>?_⟩;rw[h] at e1;simp only[Bool.or_eq_false_iff,bne_eq_false_iff_eq,Bool.not_eq_false'] at h;obtain⟨⟨hsz,h17⟩,hmp⟩:=h;refine aE [4,5] (fun(i:Nat)=>[(8,.int .i64 i)]) (fun i=>i<=mp.length/\(List.range i).all (s.kn sz mp)=true) (fun i=>mp.length-i) 0 (by simp only[go_sem];rfl) ⟨Nat.zero_le _,rfl⟩ rfl ?_;rintro i ⟨hi,ha⟩;simp only[go_sem];refine⟨fun h=>?_,fun h=>?_⟩
 ·have hfi:=ew hf (show i<s.fr.length by omega)
  have hti:=ew ht (show i<s.to.length by omega);have hnn : 0<=sz.getD (s.to.getD i 0).toNat 0:=(ew h17 (show(s.to.getD i 0).toNat<sz.length by omega)).1;refine⟨h,by omega,by omega,by omega,by omega,av (Ut _ _ _ hnn) rfl (.inl rfl) ?_⟩;simp only[go_sem];have hsucc:(List.range (i+1)).all (s.kn sz mp)=s.kn sz mp i:=by rw[List.range_succ,List.all_append,ha];simp
  have neg:s.kn sz mp i=false->false=s.gK sz mp:=fun hf=>by
   rw[e1];symm;rw[Bool.not_false,Bool.true_and,List.all_eq_false];exact⟨i,List.mem_range.2 h,by rw[hf];simp⟩
  refine⟨fun h2=>neg (by rw[Bool.not_eq_true'] at h2;exact h2),fun h2=>⟨i+1,⟨h,by rw[hsucc];rw[Bool.not_eq_false'] at h2;exact h2⟩,by omega,by rw[aM h (by simp only[maxLen];omega)]⟩⟩
 ·rw[show i=mp.length by omega] at ha
  rw[e1,ha];rfl
section
variable{β:Type}{f:Nat->Option β}{i n:Nat}{b:β}
theorem tf(h:i<n)(hp:(List.range i).findSome? f=none)(hi:f i=some b):(List.range n).findSome? f=some b:=by
 obtain⟨m,rfl⟩:∃m,n=(i+1)+m:=⟨n-(i+1),by omega⟩;rw[List.range_add,List.findSome?_append,List.range_succ,List.findSome?_append,hp];simp[hi]
theorem tj(hp:(List.range i).findSome? f=none)(hi:f i=none):(List.range (i+1)).findSome? f=none:=by
 rw[List.range_succ,List.findSome?_append,hp];simp[hi]
end
def o7(mp:List (List Int))(p q:List Int)(m:Nat):Option Nat:=(List.range m).findSome? fun r:Nat=>if iS mp r p=iS mp r q then none else some r
def aa.fY(s:aa)(sz:List Int)(mp:List (List Int))(n:Nat):Option (Nat×Nat) :=
 (List.range n).findSome? fun i=>(o7 mp (s.lf.getD i U.zero).ed (s.rt.getD i U.zero).ed (sz.getD (s.lf.getD i U.zero).st.toNat 0).toNat).map fun r=>(i,r)
def nB:Option (Nat×Nat)->D
 | some (i,r)=>.au [.int .i64 i,.int .i64 r]
 | none=>.au [.int .i64 (-1),.int .i64 0]
def aa.sT(s:aa)(sz:List Int)(mp:List (List Int)):Prop :=
 s.rt.length=s.lf.length/\∀i,i<s.lf.length->(0<=(s.lf.getD i U.zero).st/\(s.lf.getD i U.zero).st<sz.length)/\∀r:Nat,(r:Int)<sz.getD (s.lf.getD i U.zero).st.toNat 0 ->
  jD mp r (s.lf.getD i U.zero).ed/\jD mp r (s.rt.getD i U.zero).ed
def Ax:List Nat:=[0,1,2,6,7,8,9,10,14,15,16,25,26]
def Iw:Sl:=ak Go.Proofs.Tryz.types Go.Proofs.Tryz.f50 Ax []
theorem QD:aF Go.Proofs.Tryz.prog Go.Proofs.Tryz.f50 Ax Iw 3=true:=by decide +kernel
theorem HA(s:aa)(sz:List Int)(mp:List (List Int))(hok:s.sT sz mp)(hsz:∀x∈sz,x<=4611686018427387900):aC Go.Proofs.Tryz.prog 50 [.v (.ptr s.cells),.v (ints sz),.v (aI mp)] (nB (s.fY sz mp s.lf.length)):=by
 refine ei fun hw=>?_
 simp only[dc,eW,aa.cells,D.du,gu] at hw;have hl:s.lf.length<=maxLen:=hw.1.2.2.2.1.1;obtain⟨hrt,hok⟩:=hok;refine aQ Go.Proofs.Tryz.func50 QD ?_;unfold Iw ak Ax;simp only[go_sem];refine aE [5,6,7,11,12] (fun(i:Nat)=>[(10,.int .i64 i)]) (fun i=>i<=s.lf.length/\s.fY sz mp i=none) (fun i=>s.lf.length-i) 0 (by simp only[go_sem];rfl) ⟨Nat.zero_le _,rfl⟩ rfl ?_;rintro i ⟨hi,ha⟩;simp only[go_sem];refine⟨fun h=>?_,fun h=>?_⟩
 ·obtain⟨aO,hrow⟩:=hok i h
  refine⟨h,aO,?_⟩
  have hms:sz.getD (s.lf.getD i U.zero).st.toNat 0<=4611686018427387900:=by
   have hlt:(s.lf.getD i U.zero).st.toNat<sz.length:=by omega
   rw[aS hlt];exact hsz _ (List.getElem_mem _)
  have hbrk:∀o,o7 mp (s.lf.getD i U.zero).ed (s.rt.getD i U.zero).ed (sz.getD (s.lf.getD i U.zero).st.toNat 0).toNat=o->(match o with | some r=>s.fY sz mp s.lf.length=some (i,r) | none=>s.fY sz mp (i+1)=none):=by
   intro o ho;cases o with
   | some r=>exact tf h ha (by rw[ho];rfl)
   | none=>exact tj ha (by rw[ho];rfl)
  generalize hm:sz.getD (s.lf.getD i U.zero).st.toNat 0=m at hms hrow hbrk;refine aE [7] (fun(r:Nat)=>[(12,.int .i64 r)]) (fun r=>r<=m.toNat/\o7 mp (s.lf.getD i U.zero).ed (s.rt.getD i U.zero).ed r=none) (fun r=>m.toNat-r) 0 (by simp only[go_sem];rfl) ⟨Nat.zero_le _,rfl⟩ rfl ?_;rintro r ⟨hr,hb⟩;simp only[go_sem];refine⟨fun h2=>?_,fun h2=>?_⟩
  ·obtain⟨o1,o2⟩:=hrow r h2
   refine av (HG mp _ r o1) rfl (.inl rfl) ?_;simp only[go_sem];refine⟨by omega,av (HG mp _ r o2) rfl (.inl rfl) ?_⟩;simp only[go_sem];refine⟨fun h3=>?_,fun h3=>⟨r+1,⟨by omega,tj hb (if_pos (by simpa using h3))⟩,by omega,by rw[wrap_small (by omega) (by omega)];rfl⟩⟩;have:=hbrk _ (tf (show r<m.toNat by omega) hb (if_neg (by simpa using h3)));simp only at this;rw[this];rfl
  ·have:=hbrk none (by rw[show m.toNat=r by omega];exact hb)
   simp only at this;exact⟨i+1,⟨h,this⟩,by omega,by rw[aM h hl]⟩
 ·rw[show i=s.lf.length by omega] at ha
  rw[ha];rfl
def AV:List Nat:=[0,2]
def IV:Sl:=ak Go.Proofs.Tryz.types Go.Proofs.Tryz.f86 AV []
theorem Q1:aF Go.Proofs.Tryz.prog Go.Proofs.Tryz.f86 AV IV 1=true:=by decide +kernel
theorem Ux(s:aa)(hn : 0<=s.nd)(hn8:s.nd<=8)(h8:s.fr.length<=8):aC Go.Proofs.Tryz.prog 86 [.v (.ptr s.cells)] (af.d ⟨List.replicate s.nd.toNat 0,List.replicate s.fr.length []⟩):=by
 refine aQ Go.Proofs.Tryz.func86 Q1 ?_;unfold IV ak AV;simp only[go_sem];omega
def AK:List Nat:=[0,2,1]
def II:Sl:=ak Go.Proofs.Tryz.types Go.Proofs.Tryz.f63 AK []
theorem QP:aF Go.Proofs.Tryz.prog Go.Proofs.Tryz.f63 AK II 1=true:=by decide +kernel
theorem Uq(d:af)(h1:d.sz.length<=1048576)(h2:fM List.length d.mp<=1048576):aC Go.Proofs.Tryz.prog 63 [.v (af.d d)] (af.d d):=by
 refine aQ Go.Proofs.Tryz.func63 QP ?_;unfold II ak AK;simp only[go_sem];refine av (HD d.sz h1) rfl (.inl (bZ _)) ?_;simp only[go_sem];refine av (Uo d.mp h2) rfl (.inl (ff _)) ?_;simp only[go_sem]
 all_goals rfl
def ah.okB(c:ah):Bool:=if c.kd=1 then c.se == 0&&c.th == 0 else c.kd == 2
def An:List Nat:=[0,2,1,4]
def Il:Sl:=ak Go.Proofs.Tryz.types Go.Proofs.Tryz.f93 An []
theorem Qt:aF Go.Proofs.Tryz.prog Go.Proofs.Tryz.f93 An Il 1=true:=by decide +kernel
theorem Ug(c:ah):aC Go.Proofs.Tryz.prog 93 [.v (ah.d c)] (.bool c.okB):=by
 unfold ah.okB;refine aQ Go.Proofs.Tryz.func93 Qt ?_;unfold Il ak An;simp only[go_sem];refine⟨fun h=>by rw[if_pos h],fun h=>?_⟩;rw[if_neg (by simpa using h)];exact⟨fun h2=>by simp[h2],fun h2=>h2.symm⟩
end Go.D3
namespace Go.D3
open Go
set_option maxRecDepth 100000
def fu(mp:List (List Int))(l:List Int):List (List Int):=l.foldl (fun m (e:Int)=>m.set e.toNat (m.getD e.toNat []++[-1])) mp
theorem v7{mp:List (List Int)}{l:List Int}{e:Int}:fu mp (l++[e])=(fu mp l).set e.toNat ((fu mp l).getD e.toNat []++[-1]):=by
 unfold fu;rw[List.foldl_append];rfl
theorem oS{mp:List (List Int)}:∀{l:List Int},(fu mp l).length=mp.length:=by
 intro l;induction l generalizing mp with
 | nil=>rfl
 | cons e l ih=>show(fu _ l).length=_;rw[ih,List.length_set]
theorem jv{α:Type}{l:List α}{i j:Nat}{x d:α}(h:i<l.length):(l.set i x).getD j d=if j=i then x else l.getD j d:=by
 rw[List.getD_eq_getElem?_getD,List.getElem?_set];by_cases hij:i=j
 ·subst hij;rw[if_pos rfl,if_pos h,if_pos rfl];rfl
 ·rw[if_neg hij,if_neg (Ne.symm hij),List.getD_eq_getElem?_getD]
theorem sF{mp:List (List Int)}{fr:List Int}{x:Int}:∀{n:Nat},n<=mp.length->∀e:Nat,(fu mp (eD fr x n)).getD e []=if e<n/\fr.getD e 0=x then mp.getD e []++[-1] else mp.getD e []
 | 0,_,e=>by rw[if_neg (by omega)];rfl
 | n+1,hn,e=>by
  have ih:=fun e=>sF (mp:=mp) (fr:=fr) (x:=x) (n:=n) (by omega) e
  rw[rz];by_cases h:fr.getD n 0=x
  ·rw[if_pos h,v7,Int.toNat_natCast,jv (by rw[oS];omega),ih n,ih e,if_neg (show ¬(n<n/\fr.getD n 0=x) from fun hh=>Nat.lt_irrefl _ hh.1)]
   by_cases he:e=n
   ·subst he;rw[if_pos rfl,if_pos ⟨by omega,h⟩]
   ·rw[if_neg he]
    by_cases hc:e<n/\fr.getD e 0=x
    ·rw[if_pos hc,if_pos ⟨by omega,hc.2⟩]
    ·rw[if_neg hc,if_neg (fun hh=>hc ⟨by omega,hh.2⟩)]
  ·rw[if_neg h,List.append_nil,ih e]
   by_cases hc:e<n/\fr.getD e 0=x
   ·rw[if_pos hc,if_pos ⟨by omega,hc.2⟩]
   ·rw[if_neg hc,if_neg]
    rintro⟨h1,h2⟩;by_cases he:e=n
    ·subst he;exact h h2
    ·exact hc ⟨by omega,h2⟩
structure br(s:aa)(d:af):Prop where
 nd:(d.sz.length:Int)=s.nd
 mp:d.mp.length=s.fr.length
 eH:∀i,i<d.sz.length->0<=d.sz.getD i 0/\d.sz.getD i 0<=16
 len:∀e,e<d.mp.length->((d.mp.getD e []).length:Int)=d.sz.getD (s.fr.getD e 0).toNat 0
 val:∀e i,e<d.mp.length->i<(d.mp.getD e []).length->-1<=(d.mp.getD e []).getD i 0/\(d.mp.getD e []).getD i 0<d.sz.getD (s.to.getD e 0).toNat 0
def af.can(s:aa)(d:af)(c:ah):Bool :=
 c.okB&&(if c.kd=1 then aP c.fi 0 (s.nd-1)&&!(d.sz.getD c.fi.toNat 0 == 16)
  else aP c.fi 0 ((s.fr.length:Int)-1)&&aP c.se 0 (d.sz.getD (s.fr.getD c.fi.toNat 0).toNat 0-1)&&aP c.th 0 (d.sz.getD (s.to.getD c.fi.toNat 0).toNat 0-1))
def af.app(s:aa)(d:af)(c:ah):af :=
 if c.kd=1 then⟨d.sz.set c.fi.toNat (d.sz.getD c.fi.toNat 0+1),fu d.mp (eD s.fr c.fi s.fr.length)⟩
 else⟨d.sz,d.mp.set c.fi.toNat ((d.mp.getD c.fi.toNat []).set c.se.toNat c.th)⟩
structure cQ(s:aa):Prop where
 n0 : 0<=s.nd
 n8:s.nd<=8
 f8:s.fr.length<=8
 to:s.to.length=s.fr.length
 fr:bV s.nd s.fr=true
 qe:bV s.nd s.to=true
theorem eA{s:aa}(h:s.fP=true):cQ s:=by
 simp only[aa.fP,Bool.and_eq_true,decide_eq_true_eq] at h;obtain⟨h1,h2,hto,hf,ht⟩:=h;have hn : 0<=s.nd/\s.nd<=8:=by unfold aP at h1;simpa using h1
 exact⟨hn.1,hn.2,h2,hto,hf,ht⟩
theorem br.app{s:aa}{d:af}{c:ah}(hs:cQ s)(h:br s d)(hc:d.can s c=true):br s (d.app s c):=by
 unfold af.can at hc;rw[Bool.and_eq_true] at hc;unfold af.app;by_cases hk:c.kd=1
 ·rw[if_pos hk]
  rw[if_pos hk] at hc;simp only[Bool.and_eq_true,aP,decide_eq_true_eq,Bool.not_eq_true',beq_eq_false_iff_ne] at hc;obtain⟨_,⟨h0,h1⟩,h16⟩:=hc;have hnd:=h.nd;have hlt:c.fi.toNat<d.sz.length:=by omega
  have hmf:=h.mp;have hget:∀j,(d.sz.set c.fi.toNat (d.sz.getD c.fi.toNat 0+1)).getD j 0=if j=c.fi.toNat then d.sz.getD c.fi.toNat 0+1 else d.sz.getD j 0:=fun j=>jv hlt
  have hmp:∀e,(fu d.mp (eD s.fr c.fi s.fr.length)).getD e []=if e<s.fr.length/\s.fr.getD e 0=c.fi then d.mp.getD e []++[-1] else d.mp.getD e []:=sF (by omega)
  have h16':=h.eH _ hlt;refine⟨by simpa using hnd,by rw[oS];exact hmf,fun i hi=>?_,fun e he=>?_,fun e i he hi=>?_⟩
  ·simp only[List.length_set] at hi
   simp only[hget];split
   ·omega
   ·exact h.eH i hi
  ·simp only[oS] at he
   simp only[hget,hmp];have hfe:=ew hs.fr (show e<s.fr.length by omega);have hle:=h.len e he;by_cases hx:s.fr.getD e 0=c.fi
   ·rw[if_pos ⟨by omega,hx⟩,hx,if_pos rfl,List.length_append,<-hx]
    simp only[List.length_cons,List.length_nil];omega
   ·rw[if_neg (fun hh=>hx hh.2),if_neg (fun hh=>hx (by omega))]
    exact hle
  ·simp only[oS] at he
   simp only[hget];simp only[hmp] at hi|-
   have hte:=ew hs.qe (show e<s.to.length by rw[hs.to];omega)
   have up:∀v:Int,v<d.sz.getD (s.to.getD e 0).toNat 0->v<if(s.to.getD e 0).toNat=c.fi.toNat then d.sz.getD c.fi.toNat 0+1 else d.sz.getD (s.to.getD e 0).toNat 0:=by
    intro v hv;split
    ·rename_i hh;rw[hh] at hv;omega
    ·exact hv
   have hpos : -1<d.sz.getD (s.to.getD e 0).toNat 0:=by have:=(h.eH (s.to.getD e 0).toNat (by omega)).1;omega
   by_cases hx:e<s.fr.length/\s.fr.getD e 0=c.fi
   ·rw[if_pos hx] at hi|-
    rw[List.getD_eq_getElem?_getD,List.getElem?_append];by_cases hi2:i<(d.mp.getD e []).length
    ·rw[if_pos hi2,<-List.getD_eq_getElem?_getD]
     have:=h.val e i he hi2;exact⟨this.1,up _ this.2⟩
    ·rw[if_neg hi2]
     have:i-(d.mp.getD e []).length=0:=by rw[List.length_append,List.length_cons,List.length_nil] at hi;omega
     rw[this];exact⟨by simp,up _ (by simpa using hpos)⟩
   ·rw[if_neg hx] at hi|-
    have:=h.val e i he hi;exact⟨this.1,up _ this.2⟩
 ·rw[if_neg hk]
  rw[if_neg hk] at hc;simp only[Bool.and_eq_true,aP,decide_eq_true_eq] at hc;obtain⟨_,⟨⟨h0,h1⟩,h2,h3⟩,h4,h5⟩:=hc;have hmf:=h.mp;have hlt:c.fi.toNat<d.mp.length:=by omega
  have hget:∀e,(d.mp.set c.fi.toNat ((d.mp.getD c.fi.toNat []).set c.se.toNat c.th)).getD e []=if e=c.fi.toNat then(d.mp.getD c.fi.toNat []).set c.se.toNat c.th else d.mp.getD e []:=fun e=>jv hlt
  have hl:=h.len _ hlt;refine⟨h.nd,by simpa using hmf,h.eH,fun e he=>?_,fun e i he hi=>?_⟩
  ·simp only[List.length_set] at he
   simp only[hget];split
   ·rename_i hh;rw[List.length_set,hh];exact hl
   ·exact h.len e he
  ·simp only[List.length_set] at he
   simp only[hget] at hi|-
   split at hi
   ·rename_i hh
    rw[if_pos hh,jv (by omega)];subst hh;split
    ·omega
    ·exact h.val _ i he (by simpa using hi)
   ·rename_i hh
    rw[if_neg hh];exact h.val e i he hi
end Go.D3
