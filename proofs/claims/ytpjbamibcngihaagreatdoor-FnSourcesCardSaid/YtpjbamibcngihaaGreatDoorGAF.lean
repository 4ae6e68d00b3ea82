/- DATA OF SCHEMAS: changes. Plain laws;the program's (*data).apply. -/
import Derived.Test.YtpjbamibcngihaaGreatDoorGAE
namespace Go.D3
open Go
set_option maxHeartbeats 4000000
set_option maxRecDepth 100000
def en(fr:List Int)(x:Int)(i:Nat):List Int:=((List.range i).filter fun e=>fr.getD e 0 == x) |>.map fun e:Nat=>(e:Int)
theorem qp{fr:List Int}{x:Int}{i:Nat}:en fr x (i+1)=en fr x i++(if fr.getD i 0=x then[(i:Int)] else[]):=by
 unfold en;rw[List.range_succ,List.filter_append,List.map_append];congr 1;by_cases h:fr.getD i 0=x
 ·rw[if_pos h,List.filter_cons_of_pos (by simpa using h)];rfl
 ·rw[if_neg h,List.filter_cons_of_neg (by simpa using h)];rfl
theorem Fj{fr:List Int}{x:Int}{i:Nat}:(en fr x i).length<=i:=by
 unfold en;rw[List.length_map];exact Nat.le_trans (List.length_filter_le _ _) (by simp)
def vM:List Nat:=[0,1,4,5,6,7,12,13,14]
def BX:Sl:=ak Go.Proofs.Tryz.types Go.Proofs.Tryz.f94 vM []
theorem Kq:aI Go.Proofs.Tryz.prog Go.Proofs.Tryz.f94 vM BX 2=true:=by decide +kernel
theorem Kk(s:aa)(x:Int)(h8:s.fr.length<=8):aC Go.Proofs.Tryz.prog 94 [.v (.ptr s.cells),.v (.int .i64 x)] (ints (en s.fr x s.fr.length)):=by
 refine aT Go.Proofs.Tryz.func94 Kq ?_;unfold BX ak vM;simp only[go_sem];refine aG [4,5] (fun(i:Nat)=>[(8,.int .i64 i),(3,.o (ints (en s.fr x i)))]) (fun i=>i<=s.fr.length) (fun i=>s.fr.length-i) 0 (by simp only[go_sem];rfl) (Nat.zero_le _) rfl ?_;intro i hi;simp only[go_sem];have hl:=Fj (fr:=s.fr) (x:=x) (i:=i);refine⟨fun h=>⟨h,fun h1=>⟨by omega,i+1,h,by omega,?_⟩,fun h1=>⟨i+1,h,by omega,?_⟩⟩,fun h=>by rw[show i=s.fr.length by omega]⟩
 ·rw[qp,if_pos (by simpa using Eq.symm (by simpa using h1)),aN h (by simp only[maxLen];omega)]
 ·rw[qp,if_neg (by simpa using Ne.symm (by simpa using h1)),List.append_nil,aN h (by simp only[maxLen];omega)]
def xh:List Nat:=[0,2]
def De:Sl:=ak Go.Proofs.Tryz.types Go.Proofs.Tryz.f76 xh []
theorem L4:aI Go.Proofs.Tryz.prog Go.Proofs.Tryz.f76 xh De 1=true:=by decide +kernel
theorem Lq(l:List Int):aC Go.Proofs.Tryz.prog 76 [.v (ints l)] (.bool (bU 17 l)):=by
 refine aT Go.Proofs.Tryz.func76 L4 ?_;unfold De ak xh;simp only[go_sem];refine ax (sd 17 l (by decide)) rfl (.inl rfl) ?_;simp only[go_sem]
def iK(mp:List (List Int)):Int->List Int->Int
 | r,[]=>r
 | r,e::l=>iK mp ((mp.getD e.toNat []).getD r.toNat 0) l
def je(mp:List (List Int)):Int->List Int->Prop
 | _,[]=>True
 | r,e::l=>(0<=e/\e<mp.length)/\(0<=r/\r<(mp.getD e.toNat []).length)/\je mp ((mp.getD e.toNat []).getD r.toNat 0) l
theorem E9{mp:List (List Int)}{l:List Int}{r:Int}{i:Nat}(h:i<l.length):iK mp r (l.drop i)=iK mp ((mp.getD (l.getD i 0).toNat []).getD r.toNat 0) (l.drop (i+1)) /\
  (je mp r (l.drop i)->(0<=l.getD i 0/\l.getD i 0<mp.length)/\(0<=r/\r<(mp.getD (l.getD i 0).toNat []).length)/\je mp ((mp.getD (l.getD i 0).toNat []).getD r.toNat 0) (l.drop (i+1))):=by
 rw[List.drop_eq_getElem_cons h,iK,je,aS h];exact⟨rfl,id⟩
def xW:List Nat:=[0,1,2,6,8,9,10,11]
def Ed:Sl:=ak Go.Proofs.Tryz.types Go.Proofs.Tryz.f80 xW []
theorem Nj:aI Go.Proofs.Tryz.prog Go.Proofs.Tryz.f80 xW Ed 3=true:=by decide +kernel
theorem DQ(mp:List (List Int))(l:List Int)(r:Int)(hok:je mp r l):aC Go.Proofs.Tryz.prog 80 [.v (aK mp),.v (ints l),.v (.int .i64 r)] (.int .i64 (iK mp r l)):=by
 refine fe fun hw=>?_
 simp only[dM,gf] at hw;have hl:l.length<=maxLen:=hw.2.1.1;refine aT Go.Proofs.Tryz.func80 Nj ?_;unfold Ed ak xW;simp only[go_sem];refine aG [4] (fun(p:Nat×Int)=>[(2,.int .i64 p.2),(7,.int .i64 p.1)]) (fun p=>p.1<=l.length/\iK mp p.2 (l.drop p.1)=iK mp r l/\je mp p.2 (l.drop p.1)) (fun p=>l.length-p.1) (0,r) (by simp only[go_sem];rfl) ⟨Nat.zero_le _,rfl,hok⟩ rfl ?_;rintro⟨i,y⟩ ⟨hi,ha,hb⟩;simp only[go_sem];simp only at hi ha hb;refine⟨fun h=>?_,fun h=>?_⟩
 ·obtain⟨e1,e2⟩:=E9 (mp:=mp) (r:=y) h
  obtain⟨b1,b2,b3⟩:=e2 hb;exact⟨h,b1,b2,(i+1,(mp.getD (l.getD i 0).toNat []).getD y.toNat 0),⟨h,e1▸ha,b3⟩,by show l.length-(i+1)<l.length-i;omega,by rw[aN h hl]⟩
 ·rw[show i=l.length by omega,List.drop_length] at ha
  rw[<-ha];rfl
def aa.kV(s:aa)(sz:List Int)(mp:List (List Int))(e:Nat):Bool:=((mp.getD e []).length:Int) == sz.getD (s.fr.getD e 0).toNat 0&&bU (sz.getD (s.to.getD e 0).toNat 0) (mp.getD e [])
def aa.jk(s:aa)(sz:List Int)(mp:List (List Int)):Bool:=((sz.length:Int) == s.nd&&bU 17 sz&&(mp.length == s.fr.length))&&(List.range mp.length).all (s.kV sz mp)
theorem dJ{n:Int}{l:List Int}{i:Nat}(h:bU n l=true)(hi:i<l.length) : 0<=l.getD i 0/\l.getD i 0<n:=by
 unfold bU at h;have:=List.all_eq_true.1 h _ (List.getElem_mem hi);rw[aS hi];simpa using this
def vH:List Nat:=[0,1,2,6,7,8,31,32,33]
def BR:Sl:=ak Go.Proofs.Tryz.types Go.Proofs.Tryz.f45 vH []
theorem Kf:aI Go.Proofs.Tryz.prog Go.Proofs.Tryz.f45 vH BR 3=true:=by decide +kernel
theorem Kc(s:aa)(sz:List Int)(mp:List (List Int))(hs:s.fF=true):aC Go.Proofs.Tryz.prog 45 [.v (.ptr s.cells),.v (ints sz),.v (aK mp)] (.bool (s.jk sz mp)):=by
 have hs1:=hs;simp only[aa.fF,Bool.and_eq_true,decide_eq_true_eq] at hs1;obtain⟨h1,h2,hto,hf,ht⟩:=hs1;have hn : 0<=s.nd/\s.nd<=8:=by unfold aL at h1;simpa using h1
 refine aT Go.Proofs.Tryz.func45 Kf ?_;unfold BR ak vH;simp only[go_sem];refine bG (fun _=>Lq sz) rfl (fun h=>h) (.inl rfl) ?_;simp only[go_sem]
 have e1:s.jk sz mp=(!(((sz.length:Int) != s.nd) || !bU 17 sz || ((mp.length:Int) != (s.fr.length:Int)))&&(List.range mp.length).all (s.kV sz mp)):=by
  unfold aa.jk
  have a2:(mp.length == s.fr.length)=!((mp.length:Int) != (s.fr.length:Int)):=by
   rw[Bool.eq_iff_iff];simp only[beq_iff_eq,Bool.not_eq_true',bne_eq_false_iff_eq];omega
  have a3:((sz.length:Int) == s.nd)=!((sz.length:Int) != s.nd):=by unfold bne;rw[Bool.not_not]
  rw[a2,a3,Bool.not_or,Bool.not_or,Bool.not_not]
 refine⟨fun h=>by simpa using h,(fun h=>by simp only[Bool.or_eq_false_iff,Bool.and_eq_true,Bool.not_eq_true',Bool.not_eq_false'] at h|-;exact h),fun h=>by rw[e1,h];rfl,fun h=>?_⟩;rw[h] at e1;simp only[Bool.or_eq_false_iff,bne_eq_false_iff_eq,Bool.not_eq_false'] at h;obtain⟨⟨hsz,h17⟩,hmp⟩:=h;refine aG [4,5] (fun(i:Nat)=>[(8,.int .i64 i)]) (fun i=>i<=mp.length/\(List.range i).all (s.kV sz mp)=true) (fun i=>mp.length-i) 0 (by simp only[go_sem];rfl) ⟨Nat.zero_le _,rfl⟩ rfl ?_;rintro i ⟨hi,ha⟩;simp only[go_sem];refine⟨fun h=>?_,fun h=>?_⟩
 ·have hfi:=dJ hf (show i<s.fr.length by omega)
  have hti:=dJ ht (show i<s.to.length by omega);have hnn : 0<=sz.getD (s.to.getD i 0).toNat 0:=(dJ h17 (show(s.to.getD i 0).toNat<sz.length by omega)).1;refine⟨h,by omega,by omega,by omega,by omega,ax (Lk _ _ _ hnn) rfl (.inl rfl) ?_⟩;simp only[go_sem];have hsucc:(List.range (i+1)).all (s.kV sz mp)=s.kV sz mp i:=by rw[List.range_succ,List.all_append,ha];simp
  have neg:s.kV sz mp i=false->false=s.jk sz mp:=fun hf=>by
   rw[e1];symm;rw[Bool.not_false,Bool.true_and,List.all_eq_false];exact⟨i,List.mem_range.2 h,by rw[hf];simp⟩
  refine⟨fun h2=>neg (by rw[Bool.not_eq_true'] at h2;exact h2),fun h2=>⟨i+1,⟨h,by rw[hsucc];rw[Bool.not_eq_false'] at h2;exact h2⟩,by omega,by rw[aN h (by simp only[maxLen];omega)]⟩⟩
 ·rw[show i=mp.length by omega] at ha
  rw[e1,ha];rfl
section
variable{β:Type}{f:Nat->Option β}{i n:Nat}{b:β}
theorem sS(h:i<n)(hp:(List.range i).findSome? f=none)(hi:f i=some b):(List.range n).findSome? f=some b:=by
 obtain⟨m,rfl⟩:∃m,n=(i+1)+m:=⟨n-(i+1),by omega⟩;rw[List.range_add,List.findSome?_append,List.range_succ,List.findSome?_append,hp];simp[hi]
theorem sq(hp:(List.range i).findSome? f=none)(hi:f i=none):(List.range (i+1)).findSome? f=none:=by
 rw[List.range_succ,List.findSome?_append,hp];simp[hi]
end
def rb(mp:List (List Int))(p q:List Int)(m:Nat):Option Nat:=(List.range m).findSome? fun r:Nat=>if iK mp r p=iK mp r q then none else some r
def aa.iu(s:aa)(sz:List Int)(mp:List (List Int))(n:Nat):Option (Nat×Nat) :=
 (List.range n).findSome? fun i=>(rb mp (s.lf.getD i U.zero).ed (s.rt.getD i U.zero).ed (sz.getD (s.lf.getD i U.zero).st.toNat 0).toNat).map fun r=>(i,r)
def pJ:Option (Nat×Nat)->D
 | some (i,r)=>.au [.int .i64 i,.int .i64 r]
 | none=>.au [.int .i64 (-1),.int .i64 0]
def aa.AM(s:aa)(sz:List Int)(mp:List (List Int)):Prop :=
 s.rt.length=s.lf.length/\∀i,i<s.lf.length->(0<=(s.lf.getD i U.zero).st/\(s.lf.getD i U.zero).st<sz.length)/\∀r:Nat,(r:Int)<sz.getD (s.lf.getD i U.zero).st.toNat 0 ->
  je mp r (s.lf.getD i U.zero).ed/\je mp r (s.rt.getD i U.zero).ed
def vK:List Nat:=[0,1,2,6,7,8,9,10,14,15,16,25,26]
def BV:Sl:=ak Go.Proofs.Tryz.types Go.Proofs.Tryz.f50 vK []
theorem Kh:aI Go.Proofs.Tryz.prog Go.Proofs.Tryz.f50 vK BV 3=true:=by decide +kernel
theorem Kg(s:aa)(sz:List Int)(mp:List (List Int))(hok:s.AM sz mp)(hsz:∀x∈sz,x<=4611686018427387900):aC Go.Proofs.Tryz.prog 50 [.v (.ptr s.cells),.v (ints sz),.v (aK mp)] (pJ (s.iu sz mp s.lf.length)):=by
 refine fe fun hw=>?_
 simp only[dM,gf,aa.cells,D.dh,fT] at hw;have hl:s.lf.length<=maxLen:=hw.1.2.2.2.1.1;obtain⟨hrt,hok⟩:=hok;refine aT Go.Proofs.Tryz.func50 Kh ?_;unfold BV ak vK;simp only[go_sem];refine aG [5,6,7,11,12] (fun(i:Nat)=>[(10,.int .i64 i)]) (fun i=>i<=s.lf.length/\s.iu sz mp i=none) (fun i=>s.lf.length-i) 0 (by simp only[go_sem];rfl) ⟨Nat.zero_le _,rfl⟩ rfl ?_;rintro i ⟨hi,ha⟩;simp only[go_sem];refine⟨fun h=>?_,fun h=>?_⟩
 ·obtain⟨aP,hrow⟩:=hok i h
  refine⟨h,aP,?_⟩
  have hms:sz.getD (s.lf.getD i U.zero).st.toNat 0<=4611686018427387900:=by
   have hlt:(s.lf.getD i U.zero).st.toNat<sz.length:=by omega
   rw[aS hlt];exact hsz _ (List.getElem_mem _)
  have hbrk:∀o,rb mp (s.lf.getD i U.zero).ed (s.rt.getD i U.zero).ed (sz.getD (s.lf.getD i U.zero).st.toNat 0).toNat=o->(match o with | some r=>s.iu sz mp s.lf.length=some (i,r) | none=>s.iu sz mp (i+1)=none):=by
   intro o ho;cases o with
   | some r=>exact sS h ha (by rw[ho];rfl)
   | none=>exact sq ha (by rw[ho];rfl)
  generalize hm:sz.getD (s.lf.getD i U.zero).st.toNat 0=m at hms hrow hbrk;refine aG [7] (fun(r:Nat)=>[(12,.int .i64 r)]) (fun r=>r<=m.toNat/\rb mp (s.lf.getD i U.zero).ed (s.rt.getD i U.zero).ed r=none) (fun r=>m.toNat-r) 0 (by simp only[go_sem];rfl) ⟨Nat.zero_le _,rfl⟩ rfl ?_;rintro r ⟨hr,hb⟩;simp only[go_sem];refine⟨fun h2=>?_,fun h2=>?_⟩
  ·obtain⟨o1,o2⟩:=hrow r h2
   refine ax (DQ mp _ r o1) rfl (.inl rfl) ?_;simp only[go_sem];refine⟨by omega,ax (DQ mp _ r o2) rfl (.inl rfl) ?_⟩;simp only[go_sem];refine⟨fun h3=>?_,fun h3=>⟨r+1,⟨by omega,sq hb (if_pos (by simpa using h3))⟩,by omega,by rw[wrap_small (by omega) (by omega)];rfl⟩⟩;have:=hbrk _ (sS (show r<m.toNat by omega) hb (if_neg (by simpa using h3)));simp only at this;rw[this];rfl
  ·have:=hbrk none (by rw[show m.toNat=r by omega];exact hb)
   simp only at this;exact⟨i+1,⟨h,this⟩,by omega,by rw[aN h hl]⟩
 ·rw[show i=s.lf.length by omega] at ha
  rw[ha];rfl
def xr:List Nat:=[0,2]
def DD:Sl:=ak Go.Proofs.Tryz.types Go.Proofs.Tryz.f86 xr []
theorem Mz:aI Go.Proofs.Tryz.prog Go.Proofs.Tryz.f86 xr DD 1=true:=by decide +kernel
theorem L8(s:aa)(hn : 0<=s.nd)(hn8:s.nd<=8)(h8:s.fr.length<=8):aC Go.Proofs.Tryz.prog 86 [.v (.ptr s.cells)] (af.d ⟨List.replicate s.nd.toNat 0,List.replicate s.fr.length []⟩):=by
 refine aT Go.Proofs.Tryz.func86 Mz ?_;unfold DD ak xr;simp only[go_sem];omega
def wj:List Nat:=[0,2,1]
def CC:Sl:=ak Go.Proofs.Tryz.types Go.Proofs.Tryz.f63 wj []
theorem Lg:aI Go.Proofs.Tryz.prog Go.Proofs.Tryz.f63 wj CC 1=true:=by decide +kernel
theorem KS(d:af)(h1:d.sz.length<=1048576)(h2:fy List.length d.mp<=1048576):aC Go.Proofs.Tryz.prog 63 [.v (af.d d)] (af.d d):=by
 refine aT Go.Proofs.Tryz.func63 Lg ?_;unfold CC ak wj;simp only[go_sem];refine ax (C3 d.sz h1) rfl (.inl (cW _)) ?_;simp only[go_sem];refine ax (Mi d.mp h2) rfl (.inl (jP _)) ?_;simp only[go_sem]
 all_goals rfl
def ah.okB(c:ah):Bool:=if c.kd=1 then c.se == 0&&c.th == 0 else c.kd == 2
def vE:List Nat:=[0,2,1,4]
def BP:Sl:=ak Go.Proofs.Tryz.types Go.Proofs.Tryz.f93 vE []
theorem Ka:aI Go.Proofs.Tryz.prog Go.Proofs.Tryz.f93 vE BP 1=true:=by decide +kernel
theorem J5(c:ah):aC Go.Proofs.Tryz.prog 93 [.v (ah.d c)] (.bool c.okB):=by
 unfold ah.okB;refine aT Go.Proofs.Tryz.func93 Ka ?_;unfold BP ak vE;simp only[go_sem];refine⟨fun h=>by rw[if_pos h],fun h=>?_⟩;rw[if_neg (by simpa using h)];exact⟨fun h2=>by simp[h2],fun h2=>h2.symm⟩
end Go.D3
namespace Go.D3
open Go
set_option maxRecDepth 100000
def fm(mp:List (List Int))(l:List Int):List (List Int):=l.foldl (fun m (e:Int)=>m.set e.toNat (m.getD e.toNat []++[-1])) mp
theorem y5{mp:List (List Int)}{l:List Int}{e:Int}:fm mp (l++[e])=(fm mp l).set e.toNat ((fm mp l).getD e.toNat []++[-1]):=by
 unfold fm;rw[List.foldl_append];rfl
theorem oP{mp:List (List Int)}:∀{l:List Int},(fm mp l).length=mp.length:=by
 intro l;induction l generalizing mp with
 | nil=>rfl
 | cons e l ih=>show(fm _ l).length=_;rw[ih,List.length_set]
theorem lN{α:Type}{l:List α}{i j:Nat}{x d:α}(h:i<l.length):(l.set i x).getD j d=if j=i then x else l.getD j d:=by
 rw[List.getD_eq_getElem?_getD,List.getElem?_set];by_cases hij:i=j
 ·subst hij;rw[if_pos rfl,if_pos h,if_pos rfl];rfl
 ·rw[if_neg hij,if_neg (Ne.symm hij),List.getD_eq_getElem?_getD]
theorem ta{mp:List (List Int)}{fr:List Int}{x:Int}:∀{n:Nat},n<=mp.length->∀e:Nat,(fm mp (en fr x n)).getD e []=if e<n/\fr.getD e 0=x then mp.getD e []++[-1] else mp.getD e []
 | 0,_,e=>by rw[if_neg (by omega)];rfl
 | n+1,hn,e=>by
  have ih:=fun e=>ta (mp:=mp) (fr:=fr) (x:=x) (n:=n) (by omega) e
  rw[qp];by_cases h:fr.getD n 0=x
  ·rw[if_pos h,y5,Int.toNat_natCast,lN (by rw[oP];omega),ih n,ih e,if_neg (show ¬(n<n/\fr.getD n 0=x) from fun hh=>Nat.lt_irrefl _ hh.1)]
   by_cases he:e=n
   ·subst he;rw[if_pos rfl,if_pos ⟨by omega,h⟩]
   ·rw[if_neg he]
    by_cases hc:e<n/\fr.getD e 0=x
    ·rw[if_pos hc,if_pos ⟨by omega,hc.2⟩]
    ·rw[if_neg hc,if_neg (fun hh=>hc ⟨by omega,hh.2⟩)]
  ·rw[if_neg h,List.append_nil,ih e]
   by_cases hc:e<n/\fr.getD e 0=x
   ·rw[if_pos hc,if_pos ⟨by omega,hc.2⟩]
   ·rw[if_neg hc,if_neg]
    rintro⟨h1,h2⟩;by_cases he:e=n
    ·subst he;exact h h2
    ·exact hc ⟨by omega,h2⟩
structure bX(s:aa)(d:af):Prop where
 nd:(d.sz.length:Int)=s.nd
 mp:d.mp.length=s.fr.length
 fo:∀i,i<d.sz.length->0<=d.sz.getD i 0/\d.sz.getD i 0<=16
 len:∀e,e<d.mp.length->((d.mp.getD e []).length:Int)=d.sz.getD (s.fr.getD e 0).toNat 0
 val:∀e i,e<d.mp.length->i<(d.mp.getD e []).length->-1<=(d.mp.getD e []).getD i 0/\(d.mp.getD e []).getD i 0<d.sz.getD (s.to.getD e 0).toNat 0
def af.can(s:aa)(d:af)(c:ah):Bool :=
 c.okB&&(if c.kd=1 then aL c.fi 0 (s.nd-1)&&!(d.sz.getD c.fi.toNat 0 == 16)
  else aL c.fi 0 ((s.fr.length:Int)-1)&&aL c.se 0 (d.sz.getD (s.fr.getD c.fi.toNat 0).toNat 0-1)&&aL c.th 0 (d.sz.getD (s.to.getD c.fi.toNat 0).toNat 0-1))
def af.app(s:aa)(d:af)(c:ah):af :=
 if c.kd=1 then⟨d.sz.set c.fi.toNat (d.sz.getD c.fi.toNat 0+1),fm d.mp (en s.fr c.fi s.fr.length)⟩
 else⟨d.sz,d.mp.set c.fi.toNat ((d.mp.getD c.fi.toNat []).set c.se.toNat c.th)⟩
structure dT(s:aa):Prop where
 n0 : 0<=s.nd
 n8:s.nd<=8
 f8:s.fr.length<=8
 to:s.to.length=s.fr.length
 fr:bU s.nd s.fr=true
 pT:bU s.nd s.to=true
theorem eQ{s:aa}(h:s.fF=true):dT s:=by
 simp only[aa.fF,Bool.and_eq_true,decide_eq_true_eq] at h;obtain⟨h1,h2,hto,hf,ht⟩:=h;have hn : 0<=s.nd/\s.nd<=8:=by unfold aL at h1;simpa using h1
 exact⟨hn.1,hn.2,h2,hto,hf,ht⟩
theorem bX.app{s:aa}{d:af}{c:ah}(hs:dT s)(h:bX s d)(hc:d.can s c=true):bX s (d.app s c):=by
 unfold af.can at hc;rw[Bool.and_eq_true] at hc;unfold af.app;by_cases hk:c.kd=1
 ·rw[if_pos hk]
  rw[if_pos hk] at hc;simp only[Bool.and_eq_true,aL,decide_eq_true_eq,Bool.not_eq_true',beq_eq_false_iff_ne] at hc;obtain⟨_,⟨h0,h1⟩,h16⟩:=hc;have hnd:=h.nd;have hlt:c.fi.toNat<d.sz.length:=by omega
  have hmf:=h.mp;have hget:∀j,(d.sz.set c.fi.toNat (d.sz.getD c.fi.toNat 0+1)).getD j 0=if j=c.fi.toNat then d.sz.getD c.fi.toNat 0+1 else d.sz.getD j 0:=fun j=>lN hlt
  have hmp:∀e,(fm d.mp (en s.fr c.fi s.fr.length)).getD e []=if e<s.fr.length/\s.fr.getD e 0=c.fi then d.mp.getD e []++[-1] else d.mp.getD e []:=ta (by omega)
  have h16':=h.fo _ hlt;refine⟨by simpa using hnd,by rw[oP];exact hmf,fun i hi=>?_,fun e he=>?_,fun e i he hi=>?_⟩
  ·simp only[List.length_set] at hi
   simp only[hget];split
   ·omega
   ·exact h.fo i hi
  ·simp only[oP] at he
   simp only[hget,hmp];have hfe:=dJ hs.fr (show e<s.fr.length by omega);have hle:=h.len e he;by_cases hx:s.fr.getD e 0=c.fi
   ·rw[if_pos ⟨by omega,hx⟩,hx,if_pos rfl,List.length_append,<-hx]
    simp only[List.length_cons,List.length_nil];omega
   ·rw[if_neg (fun hh=>hx hh.2),if_neg (fun hh=>hx (by omega))]
    exact hle
  ·simp only[oP] at he
   simp only[hget];simp only[hmp] at hi|-
   have hte:=dJ hs.pT (show e<s.to.length by rw[hs.to];omega)
   have up:∀v:Int,v<d.sz.getD (s.to.getD e 0).toNat 0->v<if(s.to.getD e 0).toNat=c.fi.toNat then d.sz.getD c.fi.toNat 0+1 else d.sz.getD (s.to.getD e 0).toNat 0:=by
    intro v hv;split
    ·rename_i hh;rw[hh] at hv;omega
    ·exact hv
   have hpos : -1<d.sz.getD (s.to.getD e 0).toNat 0:=by have:=(h.fo (s.to.getD e 0).toNat (by omega)).1;omega
   by_cases hx:e<s.fr.length/\s.fr.getD e 0=c.fi
   ·rw[if_pos hx] at hi|-
    rw[List.getD_eq_getElem?_getD,List.getElem?_append];by_cases hi2:i<(d.mp.getD e []).length
    ·rw[if_pos hi2,<-List.getD_eq_getElem?_getD]
     have:=h.val e i he hi2;exact⟨this.1,up _ this.2⟩
    ·rw[if_neg hi2]
     have:i-(d.mp.getD e []).length=0:=by rw[List.length_append,List.length_cons,List.length_nil] at hi;omega
     rw[this];exact⟨by simp,up _ (by simpa using hpos)⟩
   ·rw[if_neg hx] at hi|-
    have:=h.val e i he hi;exact⟨this.1,up _ this.2⟩
 ·rw[if_neg hk]
  rw[if_neg hk] at hc;simp only[Bool.and_eq_true,aL,decide_eq_true_eq] at hc;obtain⟨_,⟨⟨h0,h1⟩,h2,h3⟩,h4,h5⟩:=hc;have hmf:=h.mp;have hlt:c.fi.toNat<d.mp.length:=by omega
  have hget:∀e,(d.mp.set c.fi.toNat ((d.mp.getD c.fi.toNat []).set c.se.toNat c.th)).getD e []=if e=c.fi.toNat then(d.mp.getD c.fi.toNat []).set c.se.toNat c.th else d.mp.getD e []:=fun e=>lN hlt
  have hl:=h.len _ hlt;refine⟨h.nd,by simpa using hmf,h.fo,fun e he=>?_,fun e i he hi=>?_⟩
  ·simp only[List.length_set] at he
   simp only[hget];split
   ·rename_i hh;rw[List.length_set,hh];exact hl
   ·exact h.len e he
  ·simp only[List.length_set] at he
   simp only[hget] at hi|-
   split at hi
   ·rename_i hh
    rw[if_pos hh,lN (by omega)];subst hh;split
    ·omega
    ·exact h.val _ i he (by simpa using hi)
   ·rename_i hh
    rw[if_neg hh];exact h.val e i he hi
end Go.D3
