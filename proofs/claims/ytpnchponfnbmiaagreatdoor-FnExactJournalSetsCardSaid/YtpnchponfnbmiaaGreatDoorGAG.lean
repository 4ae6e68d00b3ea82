/- PLAIN LAWS: rows of paths without marks. -/
import Derived.Test.YtpnchponfnbmiaaGreatDoorGAF
import Derived.Test.YtpnchponfnbmiaaGreatDoorHG
namespace Go.D3
open Go Proofs
set_option maxHeartbeats 4000000
set_option maxRecDepth 100000
structure qj(s:aa)(x:bj):Prop where
 sh:x.c.Shape
 ob:x.c.ob=s.nd
 ed:x.ed.length=s.fr.length
 ar:∀k,k<s.fr.length->0<=x.ed.getD k 0/\x.ed.getD k 0<x.c.fr.length/\x.c.fr.getD (x.ed.getD k 0).toNat 0=s.fr.getD k 0/\x.c.to.getD (x.ed.getD k 0).toNat 0=s.to.getD k 0
def bj.dX(x:bj)(X:D):D:=.agg [.int .i64 x.c.ob,ints x.c.fr,ints x.c.to,ints x.c.aU,aF x.c.co,X,ints x.ed]
def D6(s:aa)(rc:D)(gs:List D):Prop:=gs=[]/\∃l,rc=.o (.al l)/\∃(x:bj)(M:List (Option U))(ok:Bool),l=[x.dX (ae fm none M),.bool ok]/\(ok=true->M=x.ls.map some/\s.cO=some x)/\(ok=false->s.cO=none/\x=⟨au.zero,[],[]⟩/\M=[])
theorem WC{M:List (Option U)}{a:Int}{b:List Int}:(ae fm none M).dj [.agg [.int .i64 a,.vw (ae (.int .i64) 0 b)]]=ae fm none (M++[some ⟨a,b⟩]):=kD (f:=fm) (x:=some ⟨a,b⟩)
theorem WE{L:List U}{d:U}:L.map some++[some d]=(L++[d]).map some:=by rw[List.map_append];rfl
theorem WD{d:U}:(fm (some d)).cells=[.int .i64 d.st,.vw (ints d.ed)]:=rfl
attribute [go_sem] WC WE WD
theorem yI{s:aa}{x:Int}{l:List Int}{e y:Int}(h:bw s.fr s.to x (l++[e])=some y):∃k:Nat,e=k/\k<s.fr.length/\bw s.fr s.to x l=some (s.fr.getD k 0)/\y=s.to.getD k 0:=by
 rw[l9] at h;cases hf:bw s.fr s.to x l with
 | none=>rw[hf] at h;cases h
 | some z =>
  rw[hf,Option.bind_some,bw] at h;split at h
  ·rename_i hc
   simp only[aR,Bool.and_eq_true,decide_eq_true_eq,beq_iff_eq] at hc;injection h with h
   exact⟨e.toNat,by omega,by omega,by rw[hc.2],h.symm⟩
  ·cases h
theorem bj.xJ{s:aa}{x:bj}(hx:qj s x){p:U}{y:Int}(hp:s.aO p=some y):∀i,i<=p.ed.length->∃(h:Nat)(m:Int),x.arr p i=h/\h<x.c.fr.length/\bw s.fr s.to p.st (p.ed.take i)=some m/\x.c.to.getD h 0=m
 | 0,_=>by
  obtain⟨h1,_,_⟩:=bP.1 hp;have hi:=hx.sh.aU;have ho:=hx.ob;have hr:=hx.sh.sM (x:=p.st) (by omega) (by omega);have hb:=hx.sh.ids p.st.toNat (by omega);simp only[au.me,Bool.and_eq_true,beq_iff_eq] at hb;have e:x.arr p 0=x.c.iQ p.st:=rfl;rw[e];refine⟨(x.c.iQ p.st).toNat,p.st,by omega,by omega,rfl,?_⟩;rw[show x.c.iQ p.st=x.c.aU.getD p.st.toNat 0 from rfl,hb.2];omega
 | i+1,hi=>by
  obtain⟨h,m,h1,h2,h3,h4⟩:=bj.xJ hx hp i (by omega);have hm:=qN hp hi;rw[bN (show i<p.ed.length by omega) 0] at hm;obtain⟨k,k1,k2,k3,k4⟩:=yI hm;obtain⟨a1,a2,a3,a4⟩:=hx.ar k k2;obtain⟨g,hg⟩:∃g:Nat,x.ed.getD k 0=g:=⟨(x.ed.getD k 0).toNat,by omega⟩;rw[hg,Int.toNat_natCast] at a3 a4
  have e:x.arr p (i+1)=x.c.ck h g:=by
   unfold bj.arr at h1|-
   rw[bN (show i<p.ed.length by omega) 0,List.foldl_append,h1];show x.c.ck h (x.ed.getD (p.ed.getD i 0).toNat 0)=_;rw[k1,Int.toNat_natCast,hg]
  have hc:=hx.sh.qB h2 (show g<x.c.fr.length by omega) (by rw[h4,a3];rw[k3] at h3;injection h3 with h3;exact h3.symm);refine⟨(x.c.ck h g).toNat,s.to.getD k 0,by rw[e];omega,by omega,?_,?_⟩
  ·rw[bN (show i<p.ed.length by omega) 0,hm,k4]
  ·rw[hc.2.2.2,a4]
theorem AK{s:aa}{x:bj}(hx:qj s x){p:U}{y:Int}(hp:s.aO p=some y):aw Tryz.prog 47 [.v (bj.d x),.v (U.d p)] (.int .i64 (x.arr p p.ed.length)):=by
 obtain⟨h1,h2,_⟩:=bP.1 hp;have hi:=hx.sh.aU;have ho:=hx.ob;have hco:=hx.sh.co
 have he:∀i,i<p.ed.length->∃k:Nat,p.ed.getD i 0=k/\k<s.fr.length:=fun i hi=>by
  have hm:=qN hp (i:=i+1) hi;rw[bN hi 0] at hm;obtain⟨k,k1,k2,_⟩:=yI hm;exact⟨k,k1,k2⟩
 refine YS x p (by omega) (fun i hi=>?_) (fun i hi=>?_) (by omega)
 ·obtain⟨k,k1,k2⟩:=he i hi
  have:=hx.ed;omega
 ·obtain⟨k,k1,k2⟩:=he i hi
  obtain⟨a1,a2,_⟩:=hx.ar k k2;obtain⟨h,m,h3,h4,_⟩:=bj.xJ hx hp i (by omega);have hr:=hx.sh.row h h4;rw[h3,k1,Int.toNat_natCast,Int.toNat_natCast];exact⟨by omega,a1,by omega⟩
noncomputable def pa(s:aa)(ls:List U)(n:Nat):List Int:=(List.range n).map fun x:Nat=>s.no ls ⟨x,[]⟩
noncomputable def qK(s:aa)(ls:List U)(n:Nat):List Int:=(List.range n).map fun k:Nat=>s.no ls ⟨s.fr.getD k 0,[(k:Int)]⟩
noncomputable def mQ(s:aa)(ls:List U)(f n:Nat):List Int:=(List.range n).map fun g:Nat=>s.cmp ls f g
noncomputable def yg(s:aa)(ls:List U)(n:Nat):List (List Int):=(List.range n).map fun f:Nat=>mQ s ls f ls.length
theorem pR{α:Type}{f:Nat->α}{n:Nat}:(List.range (n+1)).map f=(List.range n).map f++[f n]:=by rw[List.range_succ,List.map_append];rfl
theorem pQ{α:Type}{f:Nat->α}{n:Nat}:((List.range n).map f).length=n:=by simp
theorem WK{α:Type}{f:Nat->α}{n k:Nat}{d:α}(h:k<n):((List.range n).map f).getD k d=f k:=by
 rw[aN (by simpa using h)];simp
theorem mq{α β:Type}{f:α->β}{l:List α}{k:Nat}{d:β}(e:α)(h:k<l.length):(l.map f).getD k d=f (l.getD k e):=by
 rw[aN (by simpa using h),aN h];simp
theorem qL{s:aa}{p:U}{y:Int}(h:s.aO p=some y):s.en p=y:=by unfold aa.en;rw[h];rfl
theorem BB{s:aa}(h:s.ok=true){ls:List U}(hL:s.cQ ls)(hB:(s.cP ls).c.kr=true):qj s (s.cP ls):=by
 have hs:=gw (fj h).1;simp only[au.kr,Bool.and_eq_true] at hB;refine⟨au.wP.1 hB.1,rfl,pQ,fun k hk=>?_⟩;have hfr:=eM hs.fr hk;have he:=o5 (p:=⟨s.fr.getD k 0,[]⟩) (qO hfr.1 hfr.2) hk (show(0:Nat)<6 by decide);rw[List.nil_append] at he;obtain⟨m,m1,m2,m3⟩:=hL.HM ⟨_,he⟩;have hE:=nB h m3
 have e1:(s.cP ls).ed.getD k 0=m:=by
  rw[<-m1];exact WK hk
 rw[e1,Int.toNat_natCast];refine⟨by omega,?_,?_,?_⟩
 ·show(m:Int)<(ls.map U.st).length
  rw[List.length_map];omega
 ·show(ls.map U.st).getD m 0=_
  rw[mq U.zero m2,<-hE.1]
 ·show(ls.map s.en).getD m 0=_
  rw[mq U.zero m2];exact qL (by rw[<-hE.2.1];exact he)
theorem Zi{s:aa}{ls:List U}{f g:Nat}{y:Int}(hy:s.aO (ls.getD f U.zero)=some y)(e:¬(ls.getD g U.zero).st=y):mQ s ls f (g+1)=mQ s ls f g++[-1]:=by
 unfold mQ;rw[pR,aa.cmp,qL hy,if_neg (Ne.symm e)]
theorem Zk{s:aa}{ls:List U}{f g:Nat}{y:Int}(hy:s.aO (ls.getD f U.zero)=some y)(e:(ls.getD g U.zero).st=y):mQ s ls f (g+1)=mQ s ls f g++[(ls.getD g U.zero).ed.foldl (s.kR ls) (f:Int)]:=by
 unfold mQ;rw[pR,aa.cmp,qL hy,if_pos e.symm]
theorem some_get{α:Type}{L:List α}{i:Nat}{z:α}(h:i<L.length):(L.map some).getD i none=some (L.getD i z):=by
 rw[List.getD_eq_getElem?_getD,List.getElem?_map,List.getElem?_eq_getElem h,aN h];rfl
theorem vn{s:aa}{ls:List U}(hL:s.cQ ls)(h:¬s.gC (s.cP ls)=true):s.cO=none:=oo (.iA ls hL fun ha=>h ha.2.2)
def EO:C := (.seq (.ops [3,1] [⟨none,.gh 5 (.v 0)⟩,⟨none,.cB [.int .i64 0,.aB (.int .i64 0),.aB (.int .i64 0),.aB (.int .i64 0),.aB (ints []),.aB (.agg [.int .i64 0,ints []]),.aB (.int .i64 0)]⟩,⟨none,.bX 2 (.k (.bool false))⟩] [(3,0),(1,1)]) (.seq (.u [.ee 5 (.v 3),.dyn (.k (.fn 99 [])) [(.t 0)],.n 1,.ext 0 (.t 2),.ext 1 (.t 2),.a 4 3,.a 5 4]) (.seq (.eF [] (oL [.m 5,.not (.t 0)]) [] (.t 1) (.seq (.ops [] [⟨none,.im [.int .i64 0,.aB (.int .i64 0),.aB (.int .i64 0),.aB (.int .i64 0),.aB (ints []),.aB (.agg [.int .i64 0,ints []]),.aB (.int .i64 0)] []⟩,⟨none,.bG 7 (.v 1) (.t 0)⟩,⟨none,.bX 2 (.k (.bool false))⟩] []) .ret) .skip) (.seq (.u [.m 4,.len (.t 0),.ee 5 (.v 3),.m 4,.dyn (.k (.fn 101 [])) [(.t 2),(.t 3)],.call 100 [(.t 1),(.t 4)],.a 6 5]) (.seq (.ops [7] [⟨none,.im [.int .i64 0,.aB (.int .i64 0),.aB (.int .i64 0),.aB (.int .i64 0),.aB (ints []),.aB (.agg [.int .i64 0,ints []]),.aB (.int .i64 0)] []⟩,⟨none,.cB [.int .i64 0,.aB (.int .i64 0),.aB (.int .i64 0),.aB (.int .i64 0),.aB (ints []),.aB (.agg [.int .i64 0,ints []]),.aB (.int .i64 0)]⟩,⟨none,.bG 7 (.t 1) (.t 0)⟩] [(7,1)]) (.seq (.seq (.u [.bX 8 (.i 0)]) (.block 0 (.loop (.seq (.eF [] (oL [.m 8,.m 4,.len (.t 1),.bin .lss (.t 0) (.t 2)]) [] (.t 3) .skip (.exit 0)) (.seq (.block 1 (.eF [] (oL [.m 6,.m 8,.br 1 (.t 0) (.t 1),.ld (.t 2),.fA 5 (.v 7),.ld (.t 4),.len (.t 5),.bin .eql (.t 3) (.t 6)]) [] (.t 7) (.seq (.eF [] (oL [.m 4,.m 8,.br 2 (.t 0) (.t 1),.fA 1 (.t 2),.ld (.t 3),.len (.t 4),.bin .eql (.t 5) (.i 6)]) [] (.t 6) (.seq (.ops [] [⟨none,.im [.int .i64 0,.aB (.int .i64 0),.aB (.int .i64 0),.aB (.int .i64 0),.aB (ints []),.aB (.agg [.int .i64 0,ints []]),.aB (.int .i64 0)] []⟩,⟨none,.bG 7 (.v 1) (.t 0)⟩,⟨none,.bX 2 (.k (.bool false))⟩] []) .ret) .skip) (.u [.fA 5 (.v 7),.ld (.t 0),.m 4,.m 8,.br 2 (.t 2) (.t 3),.ee 2 (.t 4),.ch (.agg [.int .i64 0,ints []]) 1 [(0,(.t 5))],.app 2 32 (.t 1) (.t 6),.fA 5 (.v 7),.st (.t 8) (.t 7)])) .skip)) (.u [.m 8,.bin .add (.t 0) (.i 1),.a 8 1])))))) (.seq (.eF [] (oL [.fA 5 (.v 7),.ld (.t 0),.len (.t 1),.bin .gtr (.t 2) (.i 40)]) [] (.t 3) (.seq (.ops [] [⟨none,.im [.int .i64 0,.aB (.int .i64 0),.aB (.int .i64 0),.aB (.int .i64 0),.aB (ints []),.aB (.agg [.int .i64 0,ints []]),.aB (.int .i64 0)] []⟩,⟨none,.bG 7 (.v 1) (.t 0)⟩,⟨none,.bX 2 (.k (.bool false))⟩] []) .ret) .skip) (.seq (.u [.fA 0 (.v 3),.ld (.t 0),.im [.int .i64 0,.aB (.int .i64 0),.aB (.int .i64 0),.aB (.int .i64 0),.aB (ints [])] [(0,1,(.t 1))],.fA 0 (.v 7),.bG 5 (.t 3) (.t 2)]) (.seq (.seq (.u [.bX 9 (.i 0)]) (.block 2 (.loop (.seq (.eF [] (oL [.m 9,.fA 0 (.v 3),.ld (.t 1),.bin .lss (.t 0) (.t 2)]) [] (.t 3) .skip (.exit 2)) (.seq (.block 3 (.u [.fA 0 (.v 7),.fA 3 (.t 0),.ld (.t 1),.m 6,.m 4,.m 9,.ch (.int .i64 0) 0 [],.call 102 [(.t 4),(.t 5),(.t 6)],.br 1 (.t 3) (.t 7),.ld (.t 8),.ch (.int .i64 0) 1 [(0,(.t 9))],.app 1 8 (.t 2) (.t 10),.fA 0 (.v 7),.fA 3 (.t 12),.st (.t 13) (.t 11)])) (.u [.m 9,.bin .add (.t 0) (.i 1),.a 9 1])))))) (.seq (.seq (.u [.bX 10 (.i 0)]) (.block 4 (.loop (.seq (.eF [] (oL [.m 10,.fA 1 (.v 3),.ld (.t 1),.len (.t 2),.bin .lss (.t 0) (.t 3)]) [] (.t 4) .skip (.exit 4)) (.seq (.block 5 (.u [.fA 6 (.v 7),.ld (.t 0),.m 6,.m 4,.fA 1 (.v 3),.ld (.t 4),.m 10,.br 1 (.t 5) (.t 6),.ld (.t 7),.m 10,.ch (.int .i64 0) 1 [(0,(.t 9))],.call 102 [(.t 3),(.t 8),(.t 10)],.br 1 (.t 2) (.t 11),.ld (.t 12),.ch (.int .i64 0) 1 [(0,(.t 13))],.app 1 8 (.t 1) (.t 14),.fA 6 (.v 7),.st (.t 16) (.t 15)])) (.u [.m 10,.bin .add (.t 0) (.i 1),.a 10 1])))))) (.seq (.seq (.u [.bX 11 (.i 0)]) (.block 6 (.loop (.seq (.eF [] (oL [.m 11,.fA 5 (.v 7),.ld (.t 1),.len (.t 2),.bin .lss (.t 0) (.t 3)]) [] (.t 4) .skip (.exit 6)) (.seq (.block 7 (.seq (.u [.fA 0 (.v 7),.fA 1 (.t 0),.ld (.t 1),.fA 5 (.v 7),.ld (.t 3),.m 11,.br 2 (.t 4) (.t 5),.fA 0 (.t 6),.ld (.t 7),.ch (.int .i64 0) 1 [(0,(.t 8))],.app 1 8 (.t 2) (.t 9),.fA 0 (.v 7),.fA 1 (.t 11),.st (.t 12) (.t 10)]) (.seq (.u [.fA 0 (.v 7),.fA 2 (.t 0),.ld (.t 1),.ee 5 (.v 3),.fA 5 (.v 7),.ld (.t 4),.m 11,.br 2 (.t 5) (.t 6),.ee 2 (.t 7),.call 82 [(.t 3),(.t 8)],.ch (.int .i64 0) 1 [(0,(.t 9))],.app 1 8 (.t 2) (.t 10),.fA 0 (.v 7),.fA 2 (.t 12),.st (.t 13) (.t 11)]) (.seq (.u [.ch (.int .i64 0) 0 [],.a 12 0]) (.seq (.seq (.u [.bX 13 (.i 0)]) (.block 8 (.loop (.seq (.eF [] (oL [.m 13,.fA 5 (.v 7),.ld (.t 1),.len (.t 2),.bin .lss (.t 0) (.t 3)]) [] (.t 4) .skip (.exit 8)) (.seq (.block 9 (.seq (.u [.bX 14 (.i (-1))]) (.seq (.eF [] (oL [.fA 5 (.v 7),.ld (.t 0),.m 13,.br 2 (.t 1) (.t 2),.fA 0 (.t 3),.ld (.t 4),.ee 5 (.v 3),.fA 5 (.v 7),.ld (.t 7),.m 11,.br 2 (.t 8) (.t 9),.ee 2 (.t 10),.call 82 [(.t 6),(.t 11)],.bin .eql (.t 5) (.t 12)]) [] (.t 13) (.seq (.u [.m 11,.a 14 0]) (.seq (.u [.bX 15 (.i 0)]) (.block 10 (.loop (.seq (.eF [] (oL [.m 15,.fA 5 (.v 7),.ld (.t 1),.m 13,.br 2 (.t 2) (.t 3),.fA 1 (.t 4),.ld (.t 5),.len (.t 6),.bin .lss (.t 0) (.t 7)]) [] (.t 8) .skip (.exit 10)) (.seq (.block 11 (.alt [] (.two 7 25 [0,1,2,3,4,5,6,8,9,10,11,12,13,14,15,16,17,18,19,20,21,22,23,24,25,7,26,27,28,29] (.leaf (oL [.m 6,.m 4,.fA 5 (.v 7),.fA 5 (.v 7),.fA 5 (.v 7),.m 13,.m 15,.ld (.t 2),.m 14,.br 2 (.t 7) (.t 8),.fA 0 (.t 9),.ld (.t 10),.ld (.t 3),.m 14,.br 2 (.t 12) (.t 13),.fA 1 (.t 14),.ld (.t 15),.call 48 [(.t 16)],.ld (.t 4),.br 2 (.t 18) (.t 5),.fA 1 (.t 19),.ld (.t 20),.br 1 (.t 21) (.t 6),.ld (.t 22),.ch (.int .i64 0) 1 [(0,(.t 23))],.app 1 8 (.t 17) (.t 24),.call 102 [(.t 1),(.t 11),(.t 25)],.br 1 (.t 0) (.t 26),.ld (.t 27),.a 14 28]) []) (.two 6 24 [0,1,2,3,4,5,7,8,9,10,11,12,13,14,15,16,17,18,19,20,21,22,23,24,6,25,26,27,28,29] (.leaf (oL [.m 6,.m 4,.fA 5 (.v 7),.fA 5 (.v 7),.fA 5 (.v 7),.m 13,.m 15,.ld (.t 2),.m 14,.br 2 (.t 7) (.t 8),.fA 0 (.t 9),.ld (.t 3),.m 14,.br 2 (.t 11) (.t 12),.fA 1 (.t 13),.ld (.t 14),.call 48 [(.t 15)],.ld (.t 4),.br 2 (.t 17) (.t 5),.fA 1 (.t 18),.ld (.t 19),.br 1 (.t 20) (.t 6),.ld (.t 21),.ch (.int .i64 0) 1 [(0,(.t 22))],.app 1 8 (.t 16) (.t 23),.ld (.t 10),.call 102 [(.t 1),(.t 25),(.t 24)],.br 1 (.t 0) (.t 26),.ld (.t 27),.a 14 28]) []) (.two 5 23 [0,1,2,3,4,6,7,8,9,10,11,12,13,14,15,16,17,18,19,20,21,22,23,5,24,25,26,27,28,29] (.leaf (oL [.m 6,.m 4,.fA 5 (.v 7),.fA 5 (.v 7),.fA 5 (.v 7),.m 13,.m 15,.ld (.t 2),.m 14,.br 2 (.t 7) (.t 8),.ld (.t 3),.m 14,.br 2 (.t 10) (.t 11),.fA 1 (.t 12),.ld (.t 13),.call 48 [(.t 14)],.ld (.t 4),.br 2 (.t 16) (.t 5),.fA 1 (.t 17),.ld (.t 18),.br 1 (.t 19) (.t 6),.ld (.t 20),.ch (.int .i64 0) 1 [(0,(.t 21))],.app 1 8 (.t 15) (.t 22),.fA 0 (.t 9),.ld (.t 24),.call 102 [(.t 1),(.t 25),(.t 23)],.br 1 (.t 0) (.t 26),.ld (.t 27),.a 14 28]) []) (.two 4 22 [0,1,2,3,5,6,7,8,9,10,11,12,13,14,15,16,17,18,19,20,21,22,4,23,24,25,26,27,28,29] (.two 3 22 [0,1,2,4,5,6,7,8,9,10,11,12,13,14,15,16,17,18,19,20,21,22,3,23,24,25,26,27,28,29] (.leaf (oL [.m 6,.m 4,.fA 5 (.v 7),.fA 5 (.v 7),.fA 5 (.v 7),.m 13,.m 15,.ld (.t 2),.m 14,.ld (.t 3),.m 14,.br 2 (.t 9) (.t 10),.fA 1 (.t 11),.ld (.t 12),.call 48 [(.t 13)],.ld (.t 4),.br 2 (.t 15) (.t 5),.fA 1 (.t 16),.ld (.t 17),.br 1 (.t 18) (.t 6),.ld (.t 19),.ch (.int .i64 0) 1 [(0,(.t 20))],.app 1 8 (.t 14) (.t 21),.br 2 (.t 7) (.t 8),.fA 0 (.t 23),.ld (.t 24),.call 102 [(.t 1),(.t 25),(.t 22)],.br 1 (.t 0) (.t 26),.ld (.t 27),.a 14 28]) []) (.leaf (oL [.m 6,.m 4,.fA 5 (.v 7),.fA 5 (.v 7),.fA 5 (.v 7),.m 13,.m 15,.m 14,.ld (.t 3),.m 14,.br 2 (.t 8) (.t 9),.fA 1 (.t 10),.ld (.t 11),.call 48 [(.t 12)],.ld (.t 4),.br 2 (.t 14) (.t 5),.fA 1 (.t 15),.ld (.t 16),.br 1 (.t 17) (.t 6),.ld (.t 18),.ch (.int .i64 0) 1 [(0,(.t 19))],.app 1 8 (.t 13) (.t 20),.ld (.t 2),.br 2 (.t 22) (.t 7),.fA 0 (.t 23),.ld (.t 24),.call 102 [(.t 1),(.t 25),(.t 21)],.br 1 (.t 0) (.t 26),.ld (.t 27),.a 14 28]) [])) (.two 3 21 [0,1,2,4,5,6,7,8,9,10,11,12,13,14,15,16,17,18,19,20,21,3,22,23,24,25,26,27,28,29] (.leaf (oL [.m 6,.m 4,.fA 5 (.v 7),.fA 5 (.v 7),.fA 5 (.v 7),.m 13,.m 15,.ld (.t 2),.ld (.t 3),.m 14,.br 2 (.t 8) (.t 9),.fA 1 (.t 10),.ld (.t 11),.call 48 [(.t 12)],.ld (.t 4),.br 2 (.t 14) (.t 5),.fA 1 (.t 15),.ld (.t 16),.br 1 (.t 17) (.t 6),.ld (.t 18),.ch (.int .i64 0) 1 [(0,(.t 19))],.app 1 8 (.t 13) (.t 20),.m 14,.br 2 (.t 7) (.t 22),.fA 0 (.t 23),.ld (.t 24),.call 102 [(.t 1),(.t 25),(.t 21)],.br 1 (.t 0) (.t 26),.ld (.t 27),.a 14 28]) []) (.leaf (oL [.m 6,.m 4,.fA 5 (.v 7),.fA 5 (.v 7),.fA 5 (.v 7),.m 13,.m 15,.ld (.t 3),.m 14,.br 2 (.t 7) (.t 8),.fA 1 (.t 9),.ld (.t 10),.call 48 [(.t 11)],.ld (.t 4),.br 2 (.t 13) (.t 5),.fA 1 (.t 14),.ld (.t 15),.br 1 (.t 16) (.t 6),.ld (.t 17),.ch (.int .i64 0) 1 [(0,(.t 18))],.app 1 8 (.t 12) (.t 19),.ld (.t 2),.m 14,.br 2 (.t 21) (.t 22),.fA 0 (.t 23),.ld (.t 24),.call 102 [(.t 1),(.t 25),(.t 20)],.br 1 (.t 0) (.t 26),.ld (.t 27),.a 14 28]) [])))))))) (.u [.m 15,.bin .add (.t 0) (.i 1),.a 15 1]))))))) .skip) (.u [.m 12,.m 14,.ch (.int .i64 0) 1 [(0,(.t 1))],.app 1 8 (.t 0) (.t 2),.a 12 3])))) (.u [.m 13,.bin .add (.t 0) (.i 1),.a 13 1])))))) (.u [.fA 0 (.v 7),.fA 4 (.t 0),.ld (.t 1),.m 12,.ch (ints []) 1 [(0,(.t 3))],.app 1 24 (.t 2) (.t 4),.fA 0 (.v 7),.fA 4 (.t 6),.st (.t 7) (.t 5)])))))) (.u [.m 11,.bin .add (.t 0) (.i 1),.a 11 1])))))) (.seq (.eF [] (oL [.fA 0 (.v 7),.ee 5 (.t 0),.call 103 [(.t 1)],.not (.t 2)]) [] (.t 3) (.seq (.ops [] [⟨none,.im [.int .i64 0,.aB (.int .i64 0),.aB (.int .i64 0),.aB (.int .i64 0),.aB (ints []),.aB (.agg [.int .i64 0,ints []]),.aB (.int .i64 0)] []⟩,⟨none,.bG 7 (.v 1) (.t 0)⟩,⟨none,.bX 2 (.k (.bool false))⟩] []) .ret) .skip) (.seq (.seq (.u [.bX 16 (.i 0)]) (.block 12 (.loop (.seq (.eF [] (oL [.m 16,.fA 5 (.v 7),.ld (.t 1),.len (.t 2),.bin .lss (.t 0) (.t 3)]) [] (.t 4) .skip (.exit 12)) (.seq (.block 13 (.eF [] (oL [.ee 7 (.v 7),.fA 5 (.v 7),.ld (.t 1),.m 16,.br 2 (.t 2) (.t 3),.ee 2 (.t 4),.call 47 [(.t 0),(.t 5)],.m 16,.bin .neq (.t 6) (.t 7)]) [] (.t 8) (.seq (.ops [] [⟨none,.im [.int .i64 0,.aB (.int .i64 0),.aB (.int .i64 0),.aB (.int .i64 0),.aB (ints []),.aB (.agg [.int .i64 0,ints []]),.aB (.int .i64 0)] []⟩,⟨none,.bG 7 (.v 1) (.t 0)⟩,⟨none,.bX 2 (.k (.bool false))⟩] []) .ret) .skip)) (.u [.m 16,.bin .add (.t 0) (.i 1),.a 16 1])))))) (.seq (.seq (.u [.bX 17 (.i 0)]) (.block 14 (.loop (.seq (.eF [] (oL [.m 17,.fA 3 (.v 3),.ld (.t 1),.len (.t 2),.bin .lss (.t 0) (.t 3)]) [] (.t 4) .skip (.exit 14)) (.seq (.block 15 (.eF [] (oL [.ee 7 (.v 7),.fA 3 (.v 3),.ld (.t 1),.m 17,.br 2 (.t 2) (.t 3),.ee 2 (.t 4),.call 47 [(.t 0),(.t 5)],.ee 7 (.v 7),.fA 4 (.v 3),.ld (.t 8),.m 17,.br 2 (.t 9) (.t 10),.ee 2 (.t 11),.call 47 [(.t 7),(.t 12)],.bin .neq (.t 6) (.t 13)]) [] (.t 14) (.seq (.ops [] [⟨none,.im [.int .i64 0,.aB (.int .i64 0),.aB (.int .i64 0),.aB (.int .i64 0),.aB (ints []),.aB (.agg [.int .i64 0,ints []]),.aB (.int .i64 0)] []⟩,⟨none,.bG 7 (.v 1) (.t 0)⟩,⟨none,.bX 2 (.k (.bool false))⟩] []) .ret) .skip)) (.u [.m 17,.bin .add (.t 0) (.i 1),.a 17 1])))))) (.seq (.u [.ee 7 (.v 7),.bG 7 (.v 1) (.t 0),.bX 2 (.k (.bool true))]) .ret)))))))))))))))
def MT:List Nat:=[0,2,3,1,4,5,6,7,8,9,10,11,12,13,14,15,16,17]
def JY:List RS:=[.c 1 7 true,.t 2]
theorem Vr:nH Tryz.prog Tryz.f61 MT EO 1 JY=true:=by decide +kernel
theorem YZ(s:aa)(h:s.ok=true):bK Tryz.prog 61 [aa.d s] [] (D6 s):=by
 obtain⟨hk1,hlf,hrt⟩:=fj h;have hs:=gw hk1;have hto:=hs.to;have hf8:=hs.f8;have h0:=hs.n0;have h8:=hs.n8;have no:s.cO=none->D6 s (.o (.al [.agg [.int .i64 0,ints [],ints [],ints [],aF [],ae U.d U.zero [],ints []],.bool false])) []:=fun hn=>⟨rfl,_,rfl,⟨au.zero,[],[]⟩,[],false,rfl,fun h=>by(cases h),fun _=>⟨hn,rfl,rfl⟩⟩
 refine Jt .tree Tryz.func61 rfl Vr rfl ⟨by simp only[List.length_cons,List.length_nil];decide,by simp only[List.length_nil];decide⟩ rfl (by intro h;first | rfl | cases h) ?_;unfold EO MT JY;simp only[go_sem];refine gP [] false (bK.view (Q:=fun l=>∃(o:List U)(ok:Bool),l=[ae U.d U.zero o,.bool ok]/\o.length<=500/\(ok=true->D5 s o)/\(ok=false->¬s.fits)) (YY s hs)) ?_;rintro _ _ ⟨rfl,_,rfl,list,ok,rfl,hl,hA,hno⟩;refine⟨(by repeat(first | exact trivial | refine⟨(fun h=>by cases h),?_⟩)),(fun h=>by cases h),?_⟩;simp only[go_sem];refine⟨fun hk=>?_,fun hk=>?_⟩
 ·exact⟨_,_,no (oo (.many (hno (by simpa using hk)))),rfl,rfl,trivial⟩
 have hX:=hA (by simpa using hk);have hA:=hX.a;refine gP [] false (YW s list h hA hl) ?_;rintro _ _ ⟨rfl,P,rfl,hPl,hP⟩;refine⟨(by repeat(first | exact trivial | refine⟨(fun h=>by cases h),?_⟩)),(fun h=>by cases h),?_⟩;simp only[go_sem];refine an (YU list.length P (by omega) (by omega) fun k hk=>(hP.ok h hA).pr.get hk) rfl (.inl (bT _)) ?_;simp only[go_sem];have hC:=(hP.ok h hA).cls ya;have hcx:=iH.Tq h hA hX.nd hP ya;generalize eK (cF (bB list.length) P)=cl at hC hcx;have hcl:=hC.len;refine aE [] (fun(p:Nat×List U)=>[(7,.box [.int .i64 0,.o (ints []),.o (ints []),.o (ints []),.o (aF []),.o (ae fm none (p.2.map some)),.o (ints [])]),(8,.int .i64 p.1)]) (fun p=>p.1<=list.length/\p.2.length<=p.1/\jt s list cl p.1 p.2/\gb s list cl p.1 p.2) (fun p=>list.length-p.1) (0,[]) (by simp only[go_sem];rfl) ⟨Nat.zero_le _,Nat.le_refl _,jt.zero,gb.zero⟩ rfl ?_;rintro⟨i,ls⟩ ⟨hi,hls,hL,hJ⟩;simp only at hi hls hL hJ;simp only[go_sem];refine⟨fun h1=>?_,fun h1=>?_⟩
 ·obtain⟨y,hy⟩:=hA.at' h1
  have h6:=(bP.1 hy).2.1;rw[List.length_map]
  refine⟨by omega,fun h2=>⟨h1,fun h3=>⟨_,_,no (oo (hJ.ib h hA hX.qd hcx h1 h2 (by omega))),rfl,rfl,trivial⟩,fun h3=>⟨h1,rfl,by omega,(i+1,ls++[list.getD i U.zero]),⟨h1,by simp only[List.length_append,List.length_singleton];omega,hL.new h1 h2 (by
   have h3:(list.getD i U.zero).ed.length≠6:=fun e=>by rw[e] at h3;cases h3
   omega),hJ.new h1 h2⟩,by simp only;omega,by rw[aL h1 (by simp only[maxLen];omega)]⟩⟩,
   fun h2=>⟨(i+1,ls),⟨h1,by simp only;omega,hL.old hC h1 (by simpa using h2),hJ.old (fun m=>hC.f i m h1) (by simpa using h2)⟩,by simp only;omega,by rw[aL h1 (by simp only[maxLen];omega)]⟩⟩
 obtain rfl:i=list.length:=by omega
 have hlm:(ls.map some).length=ls.length:=List.length_map _;have hat:=fun {x ed y} hy=>gb.no h hA hX.qd hcx hJ (x:=x) (ed:=ed) (y:=y) hy
 have hLs:=hJ.done h hA hX.qd hcx
 have hpl:∀i,i<list.length->(list.getD i U.zero).ed.length<=1048576:=fun i hi=>by
  obtain⟨y,hy⟩:=hA.at' hi;have:=(bP.1 hy).2.1;omega
 rw[List.length_map];refine⟨fun h2=>⟨_,_,no (oo (.iA ls hLs fun ha=>by have:=ha.2.1;omega)),rfl,rfl,trivial⟩,fun h40=>?_⟩;refine aE [] (fun(p:Nat×List Int)=>[(7,.box [.int .i64 s.nd,.o (ints []),.o (ints []),.o (ints p.2),.o (aF []),.o (ae fm none (ls.map some)),.o (ints [])]),(9,.int .i64 p.1)]) (fun p=>(p.1:Int)<=s.nd/\p.2=pa s ls p.1) (fun p=>s.nd.toNat-p.1) (0,[]) (by simp only[go_sem];rfl) ⟨h0,rfl⟩ rfl ?_;rintro⟨x,jE⟩ ⟨hx,hidl⟩;simp only at hx hidl;have hidn:jE.length=x:=by rw[hidl];exact pQ
 simp only[go_sem];refine⟨fun h2=>?_,fun h2=>?_⟩
 ·refine an (tN list x [] (by omega) hpl) rfl (.inl rfl) ?_
  obtain⟨j,k,hj1,hj2,hj3,_,hj4,_⟩:=hat (qO (s:=s) (x:=x) (by omega) h2);simp only[go_sem,hj1];exact⟨by omega,by omega,(x+1,jE++[cl.getD j 0]),⟨by simp only;omega,by rw[hidl,hj3,<-hj4];exact pR.symm⟩,by simp only;omega,by rw[aL (n:=9) (by omega) (by decide)]⟩
 obtain rfl:x=s.nd.toNat:=by omega
 refine aE [] (fun(p:Nat×List Int)=>[(7,.box [.int .i64 s.nd,.o (ints []),.o (ints []),.o (ints jE),.o (aF []),.o (ae fm none (ls.map some)),.o (ints p.2)]),(10,.int .i64 p.1)])
  (fun p=>p.1<=s.fr.length/\p.2=qK s ls p.1) (fun p=>s.fr.length-p.1) (0,[]) (by simp only[go_sem];rfl) ⟨Nat.zero_le _,rfl⟩ rfl ?_
 rintro⟨k,ed⟩ ⟨hk,hed⟩;simp only at hk hed;have hedl:ed.length=k:=by rw[hed];exact pQ
 simp only[go_sem];refine⟨fun h3=>?_,fun h3=>?_⟩
 ·have hfr:=eM hs.fr h3
  refine⟨h3,an (tN list (s.fr.getD k 0) [(k:Int)] (by omega) hpl) rfl (.inl rfl) ?_⟩;obtain⟨j,m,hj1,hj2,hj3,hm1,hm2,_⟩:=hat (o5 (p:=⟨s.fr.getD k 0,[]⟩) (qO hfr.1 hfr.2) h3 (show(0:Nat)<6 by decide));rw[List.nil_append] at hj1;simp only[go_sem,hj1];exact⟨by omega,by omega,(k+1,ed++[(m:Int)]),⟨h3,by rw[hed,<-hm2];exact pR.symm⟩,by simp only;omega,by rw[aL h3 (by simp only[maxLen];omega),hj3]⟩
 obtain rfl:k=s.fr.length:=by omega
 refine aE [12,13,14,15] (fun(p:Nat×List Int×List Int×List (List Int))=>[(7,.box [.int .i64 s.nd,.o (ints p.2.1),.o (ints p.2.2.1),.o (ints jE),.o (aF p.2.2.2),.o (ae fm none (ls.map some)),.o (ints ed)]),(11,.int .i64 p.1)])
  (fun p=>p.1<=ls.length/\p.2.1=(ls.take p.1).map U.st/\p.2.2.1=(ls.take p.1).map s.en/\p.2.2.2=yg s ls p.1) (fun p=>ls.length-p.1) (0,[],[],[]) (by simp only[go_sem];rfl) ⟨Nat.zero_le _,rfl,rfl,rfl⟩ rfl ?_
 rintro⟨f,frl,tol,col⟩ ⟨hf,hfre,htoe,hcoe⟩;simp only at hf hfre htoe hcoe;have hfrl:frl.length=f:=by rw[hfre,List.length_map,List.length_take];omega
 have htol:tol.length=f:=by rw[htoe,List.length_map,List.length_take];omega
 have hcol:col.length=f:=by rw[hcoe];exact pQ
 by_cases h4:f<ls.length
 ·have hg:=some_get (z:=U.zero) h4
  have he:∃y,s.aO (ls.getD f U.zero)=some y:=by
   obtain⟨j,_,hj,_,e⟩:=hL.ex f h4;rw[e];exact hA.at' hj
  obtain⟨y,hy⟩:=he;simp only[go_sem,hg,hlm,h4,forall_const,not_true_eq_false];refine⟨by decide,by omega,⟨by decide,by decide⟩,an (pZ s (ls.getD f U.zero) y hto hy) rfl (.inl rfl) ?_⟩;simp only[go_sem];refine⟨by omega,?_⟩;refine aE [14,15] (fun(p:Nat×List Int)=>[(12,.o (ints p.2)),(13,.int .i64 p.1)]) (fun p=>p.1<=ls.length/\p.2=mQ s ls f p.1) (fun p=>ls.length-p.1) (0,[]) (by simp only[go_sem];rfl) ⟨Nat.zero_le _,rfl⟩ rfl ?_;rintro⟨g,row⟩ ⟨hgl,hrowe⟩;simp only at hgl hrowe;have hrow:row.length=g:=by rw[hrowe];exact pQ
  by_cases h5:g<ls.length
  ·have hg2:=some_get (z:=U.zero) h5
   obtain⟨z,hz⟩:∃z,s.aO (ls.getD g U.zero)=some z:=by
    obtain⟨j,_,hj,_,e⟩:=hL.ex g h5;rw[e];exact hA.at' hj
   simp only[go_sem,hg,hg2,hlm,h4,h5,forall_const,not_true_eq_false];refine⟨by decide,⟨by decide,by decide⟩,an (pZ s (ls.getD f U.zero) y hto hy) rfl (.inl rfl) ?_⟩;have hwg:=aL h5 (show ls.length<=maxLen by simp only[maxLen];omega);simp only[go_sem];refine⟨fun e=>?_,fun e=>⟨by omega,(g+1,row++[-1]),⟨h5,by rw[hrowe];exact(Zi hy (by simpa using e)).symm⟩,by simp only;omega,by rw[hwg]⟩⟩;generalize hG:ls.getD g U.zero=G at hz e;have hG6:=(bP.1 hz).2.1;refine aE [] (fun(p:Nat×Nat)=>[(14,.int .i64 p.2),(15,.int .i64 p.1)]) (fun p=>p.1<=G.ed.length/\p.2<ls.length/\(p.2:Int)=(G.ed.take p.1).foldl (s.kR ls) (f:Int)/\∃u v,s.aO (ls.getD p.2 U.zero)=some u/\bw s.fr s.to u (G.ed.drop p.1)=some v) (fun p=>G.ed.length-p.1) (0,f) (by simp only[go_sem];rfl) ⟨Nat.zero_le _,h4,rfl,y,z,hy,by rw[<-e];exact(bP.1 hz).2.2⟩ rfl ?_;rintro⟨k,hh⟩ ⟨hk,hhl,hfo,u,v,hu,hv⟩;simp only at hk hhl hfo hu hv;have hg3:=some_get (z:=U.zero) hhl;by_cases h6:k<G.ed.length
   ·have hd:=vh (fr:=s.fr) (to:=s.to) (x:=u) h6
    rw[hv] at hd;split at hd
    ·rename_i hc
     simp only[aR,Bool.and_eq_true,decide_eq_true_eq,beq_iff_eq] at hc;obtain⟨k0,hek⟩:∃k0:Nat,G.ed.getD k 0=k0:=⟨(G.ed.getD k 0).toNat,by omega⟩;rw[hek,Int.toNat_natCast] at hc hd;have H6:=hL.ib hh hhl;obtain⟨j,m,hj1,hj2,hj3,hm1,hmn,hm2,hm3⟩:=hat (o5 (p:=ls.getD hh U.zero) (e:=k0) (by rw[hc.2];exact hu) (by omega) H6);rw[<-hek] at hj1 hmn
     have hfo2:(m:Int)=(G.ed.take (k+1)).foldl (s.kR ls) (f:Int):=by
      rw[bN h6 0,List.foldl_append,<-hfo,<-hmn];rfl
     have hwk:=aL h6 (show G.ed.length<=maxLen by simp only[maxLen];omega);have hnx:∃u v,s.aO (ls.getD m U.zero)=some u/\bw s.fr s.to u (G.ed.drop (k+1))=some v:=⟨_,v,hm3,hd.symm⟩;simp only[go_sem,hg2,hG,hg3,hlm,h5,hhl,h6,forall_const]
     with_reducible (repeat' apply And.intro)
     all_goals(first
      | decide
      | omega
      | (refine an (jf (ls.getD hh U.zero).ed (by omega)) rfl (.inl (bT _)) ?_
         simp only[go_sem,hg2,hG,hg3,hlm,h5,hhl,h6]
         with_reducible (repeat' apply And.intro)
         all_goals(first
          | decide
          | omega
          | (refine an (tN list _ _ (by omega) hpl) rfl (.inl rfl) ?_
             simp only[go_sem,hj1]
             exact⟨by omega,(k+1,m),⟨h6,hm1,hfo2,hnx⟩,by simp only;omega,by rw[hwk,hj3]⟩))))
    ·cases hd
   simp only[go_sem,hg2,hG,hlm,h5,h6,forall_const,false_implies];exact⟨by decide,by omega,(g+1,row++[(hh:Int)]),⟨h5,by rw[hrowe,hfo,List.take_of_length_le (by omega),<-hG];exact(Zk hy (by rw[hG,e])).symm⟩,by simp only;omega,by rw[hwg]⟩
  obtain rfl:g=ls.length:=by omega
  have hwf:=aL h4 (show ls.length<=maxLen by simp only[maxLen];omega);simp only[go_sem,hlm,h5,forall_const,false_implies,not_true_eq_false,not_false_eq_true];refine⟨by omega,(f+1,frl++[(ls.getD f U.zero).st],tol++[y],col++[row]),⟨h4,?_,?_,?_⟩,by simp only;omega,by rw[hwf]⟩
  ·rw[hfre,bN h4 U.zero,List.map_append];rfl
  ·rw[htoe,bN h4 U.zero,List.map_append,<-qL hy];rfl
  ·rw[hcoe,hrowe];exact pR.symm
 obtain rfl:f=ls.length:=by omega
 simp only[go_sem,hlm,h4,forall_const,false_implies];rw[List.take_length] at hfre htoe;have hT:(⟨⟨s.nd,frl,tol,jE,col⟩,ls,ed⟩:bj)=s.cP ls:=by rw[hfre,htoe,hidl,hcoe,hed];rfl
 have hTc:(⟨s.nd,frl,tol,jE,col⟩:au)=(s.cP ls).c:=congrArg bj.c hT;refine an (YO ⟨s.nd,frl,tol,jE,col⟩) rfl (.inl rfl) ?_;simp only[go_sem];refine⟨fun hB=>⟨_,_,no (vn hLs fun hg=>?_),rfl,rfl,trivial⟩,fun hB=>?_⟩
 ·unfold aa.gC at hg
  rw[hTc] at hB;simp only[Bool.and_eq_true] at hg;rw[hg.1.1] at hB;cases hB
 have hB:(s.cP ls).c.kr=true:=by rw[hTc] at hB;simpa using hB
 have hx:qj s ⟨⟨s.nd,frl,tol,jE,col⟩,ls,ed⟩:=by rw[hT];exact BB h hLs hB
 have hxl:(s.cP ls).ls=ls:=rfl;refine aE [] (fun(f:Nat)=>[(16,.int .i64 f)]) (fun f=>f<=ls.length/\∀j,j<f->(s.cP ls).arr (ls.getD j U.zero) (ls.getD j U.zero).ed.length=j) (fun f=>ls.length-f) 0 (by simp only[go_sem];rfl) ⟨Nat.zero_le _,fun j hj=>absurd hj (Nat.not_lt_zero _)⟩ rfl ?_;rintro f ⟨hf2,hfa⟩;by_cases h7:f<ls.length
 ·have hg:=some_get (z:=U.zero) h7
  have hwf:=aL h7 (show ls.length<=maxLen by simp only[maxLen];omega)
  obtain⟨y,hy⟩:∃y,s.aO (ls.getD f U.zero)=some y:=by
   obtain⟨j,_,hj,_,e⟩:=hL.ex f h7;rw[e];exact hA.at' hj
  simp only[go_sem,hg,hlm,h7,forall_const];refine⟨⟨by decide,by decide⟩,an (AK hx hy) rfl (.inl rfl) ?_⟩;rw[hT];simp only[go_sem];refine⟨fun hn=>⟨_,_,no (vn hLs fun hg=>?_),rfl,rfl,trivial⟩,fun hn=>⟨f+1,⟨h7,fun j hj=>?_⟩,by omega,by rw[hwf]⟩⟩
  ·unfold aa.gC at hg
   simp only[Bool.and_eq_true,lR,beq_iff_eq] at hg;rw[bne_iff_ne] at hn;exact hn (hg.1.2 f h7)
  ·by_cases hjf:j<f
   ·exact hfa j hjf
   ·obtain rfl:j=f:=by omega
    rwa [bne_eq_false_iff_eq] at hn
 obtain rfl:f=ls.length:=by omega
 simp only[go_sem,hlm,h7,forall_const,false_implies];refine aE [] (fun(i:Nat)=>[(17,.int .i64 i)]) (fun i=>i<=s.lf.length/\∀j,j<i->(s.cP ls).arr (s.lf.getD j U.zero) (s.lf.getD j U.zero).ed.length=(s.cP ls).arr (s.rt.getD j U.zero) (s.rt.getD j U.zero).ed.length) (fun i=>s.lf.length-i) 0 (by simp only[go_sem];rfl) ⟨Nat.zero_le _,fun j hj=>absurd hj (Nat.not_lt_zero _)⟩ rfl ?_;rintro i ⟨hi,hia⟩;simp only[go_sem];refine⟨fun h8=>?_,fun h8=>⟨_,_,⟨rfl,_,rfl,s.cP ls,ls.map some,true,by rw[<-hT];rfl,fun _=>⟨rfl,oo (.yes ls ⟨list,hX.nd,hA,hX.len⟩ hLs ⟨fun p hp=>?_,by omega,?_⟩)⟩,fun h=>by cases h⟩,rfl,rfl,trivial⟩⟩
 rotate_left
 ·obtain⟨k,hk,rfl⟩:=ff (d:=U.zero) hp
  exact hL.ib k hk
 ·unfold aa.gC
  simp only[Bool.and_eq_true,lR,beq_iff_eq];exact⟨⟨hB,fun j hj=>hfa j hj⟩,fun j hj=>hia j (by omega)⟩
 obtain⟨z,hp,hq,aM⟩:=ok_eq h h8;refine⟨h8,an (AK hx hp) rfl (.inl rfl) ?_⟩;simp only[go_sem];refine⟨by omega,an (AK hx hq) rfl (.inl rfl) ?_⟩;rw[hT];simp only[go_sem];refine⟨fun hn=>⟨_,_,no (vn hLs fun hg=>?_),rfl,rfl,trivial⟩,fun hn=>⟨i+1,⟨h8,fun j hj=>?_⟩,by omega,by rw[aL h8 (by simp only[maxLen];omega)]⟩⟩
 ·unfold aa.gC at hg
  simp only[Bool.and_eq_true,lR,beq_iff_eq] at hg;rw[bne_iff_ne] at hn;exact hn (hg.2 i h8)
 ·by_cases hji:j<i
  ·exact hia j hji
  ·obtain rfl:j=i:=by omega
   rwa [bne_eq_false_iff_eq] at hn
end Go.D3
namespace Go.D3
open Go
theorem Ar{K:List U}:(ae fm none (K.map some)).strip=ae U.d U.zero K:=by
 rw[wU (g:=U.d) (e:=U.zero) (t:=fun o:Option U=>o.getD U.zero) rfl (fun x hx=>?_),List.map_map]
 ·congr 1
  exact List.map_id K
 ·obtain⟨p,_,rfl⟩:=List.mem_map.1 hx
  show D.agg [_,(match(ints p.ed).strip with | .agg l=>D.vw (.agg l) | d'=>d')]=_;rw[fX];rfl
theorem Bw{l:List U}:(ae U.d U.zero l).strip=ae U.d U.zero l:=by
 have:=wU (f:=U.d) (d:=U.zero) (g:=U.d) (e:=U.zero) (t:=fun x=>x) rfl (l:=l) fun x _=>by
  show D.agg [_,(ints x.ed).strip]=_;rw[fX];rfl
 rwa [List.map_id'] at this
end Go.D3
