/- PLAIN LAWS: maps of schemas. -/
import Derived.Test.YtpnchponfnbmiaaGreatDoorGAE
import Derived.Test.YtpnchponfnbmiaaGreatDoorGAB
import Derived.Test.YtpnchponfnbmiaaGreatDoorHG
namespace Go.D3
open Go
set_option maxHeartbeats 4000000
set_option maxRecDepth 100000
structure fL(s:Sch)(x:au):Prop where
 sh:x.c.Shape
 ob:x.c.ob=s.nd
 ed:x.ed.length=s.fr.length
 ar:∀k,k<s.fr.length->0<=x.ed.getD k 0/\x.ed.getD k 0<x.c.fr.length/\x.c.fr.getD (x.ed.getD k 0).toNat 0=s.fr.getD k 0/\x.c.to.getD (x.ed.getD k 0).toNat 0=s.to.getD k 0
def au.dX(x:au)(X:D):D:=.agg [.int .i64 x.c.ob,ints x.c.fr,ints x.c.to,ints x.c.aL,aO x.c.co,X,ints x.ed]
def AN(s:Sch)(rc:D)(gs:List D):Prop:=gs=[]/\∃l,rc=.o (.af l)/\∃(x:au)(M:List (Option Pth))(ok:Bool),l=[x.dX (U ep none M),.bool ok]/\(ok=true->M=x.ls.map some/\s.bn=some x)/\(ok=false->s.bn=none/\x=⟨ai.zero,[],[]⟩/\M=[])
theorem PX{M:List (Option Pth)}{a:Int}{b:List Int}:(U ep none M).c6 [.agg [.int .i64 a,.vw (U (.int .i64) 0 b)]]=U ep none (M++[some ⟨a,b⟩]):=kE (f:=ep) (x:=some ⟨a,b⟩)
theorem PZ{L:List Pth}{d:Pth}:L.map some++[some d]=(L++[d]).map some:=by rw[List.map_append];rfl
theorem PY{d:Pth}:(ep (some d)).cells=[.int .i64 d.st,.vw (ints d.ed)]:=rfl
attribute [go_sem] PX PZ PY
theorem oS{s:Sch}{x:Int}{l:List Int}{e y:Int}(h:bp s.fr s.to x (l++[e])=some y):∃k:Nat,e=k/\k<s.fr.length/\bp s.fr s.to x l=some (s.fr.getD k 0)/\y=s.to.getD k 0:=by
 rw[kn] at h;cases hf:bp s.fr s.to x l with
 | none=>rw[hf] at h;cases h
 | some z =>
  rw[hf,Option.bind_some,bp] at h;split at h
  ·rename_i hc
   simp only[bm,Bool.and_eq_true,decide_eq_true_eq,beq_iff_eq] at hc;injection h with h
   exact⟨e.toNat,by omega,by omega,by rw[hc.2],h.symm⟩
  ·cases h
theorem au.ot{s:Sch}{x:au}(hx:fL s x){p:Pth}{y:Int}(hp:s.aF p=some y):∀i,i<=p.ed.length->∃(h:Nat)(m:Int),x.arr p i=h/\h<x.c.fr.length/\bp s.fr s.to p.st (p.ed.take i)=some m/\x.c.to.getD h 0=m
 | 0,_=>by
  obtain⟨h1,_,_⟩:=bw.1 hp;have hi:=hx.sh.aL;have ho:=hx.ob;have hr:=hx.sh.oU (x:=p.st) (by omega) (by omega);have hb:=hx.sh.ids p.st.toNat (by omega);simp only[ai.iY,Bool.and_eq_true,beq_iff_eq] at hb;have e:x.arr p 0=x.c.fQ p.st:=rfl;rw[e];refine⟨(x.c.fQ p.st).toNat,p.st,by omega,by omega,rfl,?_⟩;rw[show x.c.fQ p.st=x.c.aL.getD p.st.toNat 0 from rfl,hb.2];omega
 | i+1,hi=>by
  obtain⟨h,m,h1,h2,h3,h4⟩:=au.ot hx hp i (by omega);have hm:=kf hp hi;rw[b9 (show i<p.ed.length by omega) 0] at hm;obtain⟨k,k1,k2,k3,k4⟩:=oS hm;obtain⟨a1,a2,a3,a4⟩:=hx.ar k k2;obtain⟨g,hg⟩:∃g:Nat,x.ed.getD k 0=g:=⟨(x.ed.getD k 0).toNat,by omega⟩;rw[hg,Int.toNat_natCast] at a3 a4
  have e:x.arr p (i+1)=x.c.bE h g:=by
   unfold au.arr at h1|-
   rw[b9 (show i<p.ed.length by omega) 0,List.foldl_append,h1];show x.c.bE h (x.ed.getD (p.ed.getD i 0).toNat 0)=_;rw[k1,Int.toNat_natCast,hg]
  have hc:=hx.sh.lA h2 (show g<x.c.fr.length by omega) (by rw[h4,a3];rw[k3] at h3;injection h3 with h3;exact h3.symm);refine⟨(x.c.bE h g).toNat,s.to.getD k 0,by rw[e];omega,by omega,?_,?_⟩
  ·rw[b9 (show i<p.ed.length by omega) 0,hm,k4]
  ·rw[hc.2.2.2,a4]
theorem xy{s:Sch}{x:au}(hx:fL s x){p:Pth}{y:Int}(hp:s.aF p=some y):al Go.Proofs.Tryz.prog 47 [.v (au.d x),.v (Pth.d p)] (.int .i64 (x.arr p p.ed.length)):=by
 obtain⟨h1,h2,_⟩:=bw.1 hp;have hi:=hx.sh.aL;have ho:=hx.ob;have hco:=hx.sh.co
 have he:∀i,i<p.ed.length->∃k:Nat,p.ed.getD i 0=k/\k<s.fr.length:=fun i hi=>by
  have hm:=kf hp (i:=i+1) hi;rw[b9 hi 0] at hm;obtain⟨k,k1,k2,_⟩:=oS hm;exact⟨k,k1,k2⟩
 refine RL x p (by omega) (fun i hi=>?_) (fun i hi=>?_) (by omega)
 ·obtain⟨k,k1,k2⟩:=he i hi
  have:=hx.ed;omega
 ·obtain⟨k,k1,k2⟩:=he i hi
  obtain⟨a1,a2,_⟩:=hx.ar k k2;obtain⟨h,m,h3,h4,_⟩:=au.ot hx hp i (by omega);have hr:=hx.sh.row h h4;rw[h3,k1,Int.toNat_natCast,Int.toNat_natCast];exact⟨by omega,a1,by omega⟩
noncomputable def mZ(s:Sch)(ls:List Pth)(n:Nat):List Int:=(List.range n).map fun x:Nat=>s.no ls ⟨x,[]⟩
noncomputable def oI(s:Sch)(ls:List Pth)(n:Nat):List Int:=(List.range n).map fun k:Nat=>s.no ls ⟨s.fr.getD k 0,[(k:Int)]⟩
noncomputable def kU(s:Sch)(ls:List Pth)(f n:Nat):List Int:=(List.range n).map fun g:Nat=>s.cmp ls f g
noncomputable def uY(s:Sch)(ls:List Pth)(n:Nat):List (List Int):=(List.range n).map fun f:Nat=>kU s ls f ls.length
theorem nM{α:Type}{f:Nat->α}{n:Nat}:(List.range (n+1)).map f=(List.range n).map f++[f n]:=by rw[List.range_succ,List.map_append];rfl
theorem nL{α:Type}{f:Nat->α}{n:Nat}:((List.range n).map f).length=n:=by simp
theorem P6{α:Type}{f:Nat->α}{n k:Nat}{d:α}(h:k<n):((List.range n).map f).getD k d=f k:=by
 rw[aX (by simpa using h)];simp
theorem kF{α β:Type}{f:α->β}{l:List α}{k:Nat}{d:β}(e:α)(h:k<l.length):(l.map f).getD k d=f (l.getD k e):=by
 rw[aX (by simpa using h),aX h];simp
theorem oJ{s:Sch}{p:Pth}{y:Int}(h:s.aF p=some y):s.en p=y:=by unfold Sch.en;rw[h];rfl
theorem yw{s:Sch}(h:s.ok=true){ls:List Pth}(hL:s.cu ls)(hB:(s.cM ls).c.jb=true):fL s (s.cM ls):=by
 have hs:=ga (fg h).1;simp only[ai.jb,Bool.and_eq_true] at hB;refine⟨ai.tL.1 hB.1,rfl,nL,fun k hk=>?_⟩;have hfr:=gw hs.fr hk;have he:=mT (p:=⟨s.fr.getD k 0,[]⟩) (oK hfr.1 hfr.2) hk (show(0:Nat)<6 by decide);rw[List.nil_append] at he;obtain⟨m,m1,m2,m3⟩:=hL.Dq ⟨_,he⟩;have hE:=lC h m3
 have e1:(s.cM ls).ed.getD k 0=m:=by
  rw[<-m1];exact P6 hk
 rw[e1,Int.toNat_natCast];refine⟨by omega,?_,?_,?_⟩
 ·show(m:Int)<(ls.map Pth.st).length
  rw[List.length_map];omega
 ·show(ls.map Pth.st).getD m 0=_
  rw[kF Pth.zero m2,<-hE.1]
 ·show(ls.map s.en).getD m 0=_
  rw[kF Pth.zero m2];exact oJ (by rw[<-hE.2.1];exact he)
theorem R3{s:Sch}{ls:List Pth}{f g:Nat}{y:Int}(hy:s.aF (ls.getD f Pth.zero)=some y)(e:¬(ls.getD g Pth.zero).st=y):kU s ls f (g+1)=kU s ls f g++[-1]:=by
 unfold kU;rw[nM,Sch.cmp,oJ hy,if_neg (Ne.symm e)]
theorem R4{s:Sch}{ls:List Pth}{f g:Nat}{y:Int}(hy:s.aF (ls.getD f Pth.zero)=some y)(e:(ls.getD g Pth.zero).st=y):kU s ls f (g+1)=kU s ls f g++[(ls.getD g Pth.zero).ed.foldl (s.jq ls) (f:Int)]:=by
 unfold kU;rw[nM,Sch.cmp,oJ hy,if_pos e.symm]
theorem some_get{α:Type}{L:List α}{i:Nat}{z:α}(h:i<L.length):(L.map some).getD i none=some (L.getD i z):=by
 rw[List.getD_eq_getElem?_getD,List.getElem?_map,List.getElem?_eq_getElem h,aX h];rfl
theorem sq{s:Sch}{ls:List Pth}(hL:s.cu ls)(h:¬s.fx (s.cM ls)=true):s.bn=none:=l8 (.iE ls hL fun ha=>h ha.2.2)
def Bs:C := (.seq (.ops [3,1] [⟨none,.fa 5 (.v 0)⟩,⟨none,.eN [.int .i64 0,.aC (.int .i64 0),.aC (.int .i64 0),.aC (.int .i64 0),.aC (ints []),.aC (.agg [.int .i64 0,ints []]),.aC (.int .i64 0)]⟩,⟨none,.bW 2 (.k (.bool false))⟩] [(3,0),(1,1)]) (.seq (.u [.dN 5 (.v 3),.dyn (.k (.fn 99 [])) [(.t 0)],.n 1,.ext 0 (.t 2),.ext 1 (.t 2),.a 4 3,.a 5 4]) (.seq (.ek [] (oL [.m 5,.not (.t 0)]) [] (.t 1) (.seq (.ops [] [⟨none,.gk [.int .i64 0,.aC (.int .i64 0),.aC (.int .i64 0),.aC (.int .i64 0),.aC (ints []),.aC (.agg [.int .i64 0,ints []]),.aC (.int .i64 0)] []⟩,⟨none,.eJ 7 (.v 1) (.t 0)⟩,⟨none,.bW 2 (.k (.bool false))⟩] []) .ret) .skip) (.seq (.u [.m 4,.len (.t 0),.dN 5 (.v 3),.m 4,.dyn (.k (.fn 101 [])) [(.t 2),(.t 3)],.call 100 [(.t 1),(.t 4)],.a 6 5]) (.seq (.ops [7] [⟨none,.gk [.int .i64 0,.aC (.int .i64 0),.aC (.int .i64 0),.aC (.int .i64 0),.aC (ints []),.aC (.agg [.int .i64 0,ints []]),.aC (.int .i64 0)] []⟩,⟨none,.eN [.int .i64 0,.aC (.int .i64 0),.aC (.int .i64 0),.aC (.int .i64 0),.aC (ints []),.aC (.agg [.int .i64 0,ints []]),.aC (.int .i64 0)]⟩,⟨none,.eJ 7 (.t 1) (.t 0)⟩] [(7,1)]) (.seq (.seq (.u [.bW 8 (.i 0)]) (.block 0 (.loop (.seq (.ek [] (oL [.m 8,.m 4,.len (.t 1),.bin .lss (.t 0) (.t 2)]) [] (.t 3) .skip (.exit 0)) (.seq (.block 1 (.ek [] (oL [.m 6,.m 8,.bb 1 (.t 0) (.t 1),.ld (.t 2),.fA 5 (.v 7),.ld (.t 4),.len (.t 5),.bin .eql (.t 3) (.t 6)]) [] (.t 7) (.seq (.ek [] (oL [.m 4,.m 8,.bb 2 (.t 0) (.t 1),.fA 1 (.t 2),.ld (.t 3),.len (.t 4),.bin .eql (.t 5) (.i 6)]) [] (.t 6) (.seq (.ops [] [⟨none,.gk [.int .i64 0,.aC (.int .i64 0),.aC (.int .i64 0),.aC (.int .i64 0),.aC (ints []),.aC (.agg [.int .i64 0,ints []]),.aC (.int .i64 0)] []⟩,⟨none,.eJ 7 (.v 1) (.t 0)⟩,⟨none,.bW 2 (.k (.bool false))⟩] []) .ret) .skip) (.u [.fA 5 (.v 7),.ld (.t 0),.m 4,.m 8,.bb 2 (.t 2) (.t 3),.dN 2 (.t 4),.cd (.agg [.int .i64 0,ints []]) 1 [(0,(.t 5))],.app 2 32 (.t 1) (.t 6),.fA 5 (.v 7),.st (.t 8) (.t 7)])) .skip)) (.u [.m 8,.bin .add (.t 0) (.i 1),.a 8 1])))))) (.seq (.ek [] (oL [.fA 5 (.v 7),.ld (.t 0),.len (.t 1),.bin .gtr (.t 2) (.i 40)]) [] (.t 3) (.seq (.ops [] [⟨none,.gk [.int .i64 0,.aC (.int .i64 0),.aC (.int .i64 0),.aC (.int .i64 0),.aC (ints []),.aC (.agg [.int .i64 0,ints []]),.aC (.int .i64 0)] []⟩,⟨none,.eJ 7 (.v 1) (.t 0)⟩,⟨none,.bW 2 (.k (.bool false))⟩] []) .ret) .skip) (.seq (.u [.fA 0 (.v 3),.ld (.t 0),.gk [.int .i64 0,.aC (.int .i64 0),.aC (.int .i64 0),.aC (.int .i64 0),.aC (ints [])] [(0,1,(.t 1))],.fA 0 (.v 7),.eJ 5 (.t 3) (.t 2)]) (.seq (.seq (.u [.bW 9 (.i 0)]) (.block 2 (.loop (.seq (.ek [] (oL [.m 9,.fA 0 (.v 3),.ld (.t 1),.bin .lss (.t 0) (.t 2)]) [] (.t 3) .skip (.exit 2)) (.seq (.block 3 (.u [.fA 0 (.v 7),.fA 3 (.t 0),.ld (.t 1),.m 6,.m 4,.m 9,.cd (.int .i64 0) 0 [],.call 102 [(.t 4),(.t 5),(.t 6)],.bb 1 (.t 3) (.t 7),.ld (.t 8),.cd (.int .i64 0) 1 [(0,(.t 9))],.app 1 8 (.t 2) (.t 10),.fA 0 (.v 7),.fA 3 (.t 12),.st (.t 13) (.t 11)])) (.u [.m 9,.bin .add (.t 0) (.i 1),.a 9 1])))))) (.seq (.seq (.u [.bW 10 (.i 0)]) (.block 4 (.loop (.seq (.ek [] (oL [.m 10,.fA 1 (.v 3),.ld (.t 1),.len (.t 2),.bin .lss (.t 0) (.t 3)]) [] (.t 4) .skip (.exit 4)) (.seq (.block 5 (.u [.fA 6 (.v 7),.ld (.t 0),.m 6,.m 4,.fA 1 (.v 3),.ld (.t 4),.m 10,.bb 1 (.t 5) (.t 6),.ld (.t 7),.m 10,.cd (.int .i64 0) 1 [(0,(.t 9))],.call 102 [(.t 3),(.t 8),(.t 10)],.bb 1 (.t 2) (.t 11),.ld (.t 12),.cd (.int .i64 0) 1 [(0,(.t 13))],.app 1 8 (.t 1) (.t 14),.fA 6 (.v 7),.st (.t 16) (.t 15)])) (.u [.m 10,.bin .add (.t 0) (.i 1),.a 10 1])))))) (.seq (.seq (.u [.bW 11 (.i 0)]) (.block 6 (.loop (.seq (.ek [] (oL [.m 11,.fA 5 (.v 7),.ld (.t 1),.len (.t 2),.bin .lss (.t 0) (.t 3)]) [] (.t 4) .skip (.exit 6)) (.seq (.block 7 (.seq (.u [.fA 0 (.v 7),.fA 1 (.t 0),.ld (.t 1),.fA 5 (.v 7),.ld (.t 3),.m 11,.bb 2 (.t 4) (.t 5),.fA 0 (.t 6),.ld (.t 7),.cd (.int .i64 0) 1 [(0,(.t 8))],.app 1 8 (.t 2) (.t 9),.fA 0 (.v 7),.fA 1 (.t 11),.st (.t 12) (.t 10)]) (.seq (.u [.fA 0 (.v 7),.fA 2 (.t 0),.ld (.t 1),.dN 5 (.v 3),.fA 5 (.v 7),.ld (.t 4),.m 11,.bb 2 (.t 5) (.t 6),.dN 2 (.t 7),.call 82 [(.t 3),(.t 8)],.cd (.int .i64 0) 1 [(0,(.t 9))],.app 1 8 (.t 2) (.t 10),.fA 0 (.v 7),.fA 2 (.t 12),.st (.t 13) (.t 11)]) (.seq (.u [.cd (.int .i64 0) 0 [],.a 12 0]) (.seq (.seq (.u [.bW 13 (.i 0)]) (.block 8 (.loop (.seq (.ek [] (oL [.m 13,.fA 5 (.v 7),.ld (.t 1),.len (.t 2),.bin .lss (.t 0) (.t 3)]) [] (.t 4) .skip (.exit 8)) (.seq (.block 9 (.seq (.u [.bW 14 (.i (-1))]) (.seq (.ek [] (oL [.fA 5 (.v 7),.ld (.t 0),.m 13,.bb 2 (.t 1) (.t 2),.fA 0 (.t 3),.ld (.t 4),.dN 5 (.v 3),.fA 5 (.v 7),.ld (.t 7),.m 11,.bb 2 (.t 8) (.t 9),.dN 2 (.t 10),.call 82 [(.t 6),(.t 11)],.bin .eql (.t 5) (.t 12)]) [] (.t 13) (.seq (.u [.m 11,.a 14 0]) (.seq (.u [.bW 15 (.i 0)]) (.block 10 (.loop (.seq (.ek [] (oL [.m 15,.fA 5 (.v 7),.ld (.t 1),.m 13,.bb 2 (.t 2) (.t 3),.fA 1 (.t 4),.ld (.t 5),.len (.t 6),.bin .lss (.t 0) (.t 7)]) [] (.t 8) .skip (.exit 10)) (.seq (.block 11 (.alt [] (.two 7 25 [0,1,2,3,4,5,6,8,9,10,11,12,13,14,15,16,17,18,19,20,21,22,23,24,25,7,26,27,28,29] (.leaf (oL [.m 6,.m 4,.fA 5 (.v 7),.fA 5 (.v 7),.fA 5 (.v 7),.m 13,.m 15,.ld (.t 2),.m 14,.bb 2 (.t 7) (.t 8),.fA 0 (.t 9),.ld (.t 10),.ld (.t 3),.m 14,.bb 2 (.t 12) (.t 13),.fA 1 (.t 14),.ld (.t 15),.call 48 [(.t 16)],.ld (.t 4),.bb 2 (.t 18) (.t 5),.fA 1 (.t 19),.ld (.t 20),.bb 1 (.t 21) (.t 6),.ld (.t 22),.cd (.int .i64 0) 1 [(0,(.t 23))],.app 1 8 (.t 17) (.t 24),.call 102 [(.t 1),(.t 11),(.t 25)],.bb 1 (.t 0) (.t 26),.ld (.t 27),.a 14 28]) []) (.two 6 24 [0,1,2,3,4,5,7,8,9,10,11,12,13,14,15,16,17,18,19,20,21,22,23,24,6,25,26,27,28,29] (.leaf (oL [.m 6,.m 4,.fA 5 (.v 7),.fA 5 (.v 7),.fA 5 (.v 7),.m 13,.m 15,.ld (.t 2),.m 14,.bb 2 (.t 7) (.t 8),.fA 0 (.t 9),.ld (.t 3),.m 14,.bb 2 (.t 11) (.t 12),.fA 1 (.t 13),.ld (.t 14),.call 48 [(.t 15)],.ld (.t 4),.bb 2 (.t 17) (.t 5),.fA 1 (.t 18),.ld (.t 19),.bb 1 (.t 20) (.t 6),.ld (.t 21),.cd (.int .i64 0) 1 [(0,(.t 22))],.app 1 8 (.t 16) (.t 23),.ld (.t 10),.call 102 [(.t 1),(.t 25),(.t 24)],.bb 1 (.t 0) (.t 26),.ld (.t 27),.a 14 28]) []) (.two 5 23 [0,1,2,3,4,6,7,8,9,10,11,12,13,14,15,16,17,18,19,20,21,22,23,5,24,25,26,27,28,29] (.leaf (oL [.m 6,.m 4,.fA 5 (.v 7),.fA 5 (.v 7),.fA 5 (.v 7),.m 13,.m 15,.ld (.t 2),.m 14,.bb 2 (.t 7) (.t 8),.ld (.t 3),.m 14,.bb 2 (.t 10) (.t 11),.fA 1 (.t 12),.ld (.t 13),.call 48 [(.t 14)],.ld (.t 4),.bb 2 (.t 16) (.t 5),.fA 1 (.t 17),.ld (.t 18),.bb 1 (.t 19) (.t 6),.ld (.t 20),.cd (.int .i64 0) 1 [(0,(.t 21))],.app 1 8 (.t 15) (.t 22),.fA 0 (.t 9),.ld (.t 24),.call 102 [(.t 1),(.t 25),(.t 23)],.bb 1 (.t 0) (.t 26),.ld (.t 27),.a 14 28]) []) (.two 4 22 [0,1,2,3,5,6,7,8,9,10,11,12,13,14,15,16,17,18,19,20,21,22,4,23,24,25,26,27,28,29] (.two 3 22 [0,1,2,4,5,6,7,8,9,10,11,12,13,14,15,16,17,18,19,20,21,22,3,23,24,25,26,27,28,29] (.leaf (oL [.m 6,.m 4,.fA 5 (.v 7),.fA 5 (.v 7),.fA 5 (.v 7),.m 13,.m 15,.ld (.t 2),.m 14,.ld (.t 3),.m 14,.bb 2 (.t 9) (.t 10),.fA 1 (.t 11),.ld (.t 12),.call 48 [(.t 13)],.ld (.t 4),.bb 2 (.t 15) (.t 5),.fA 1 (.t 16),.ld (.t 17),.bb 1 (.t 18) (.t 6),.ld (.t 19),.cd (.int .i64 0) 1 [(0,(.t 20))],.app 1 8 (.t 14) (.t 21),.bb 2 (.t 7) (.t 8),.fA 0 (.t 23),.ld (.t 24),.call 102 [(.t 1),(.t 25),(.t 22)],.bb 1 (.t 0) (.t 26),.ld (.t 27),.a 14 28]) []) (.leaf (oL [.m 6,.m 4,.fA 5 (.v 7),.fA 5 (.v 7),.fA 5 (.v 7),.m 13,.m 15,.m 14,.ld (.t 3),.m 14,.bb 2 (.t 8) (.t 9),.fA 1 (.t 10),.ld (.t 11),.call 48 [(.t 12)],.ld (.t 4),.bb 2 (.t 14) (.t 5),.fA 1 (.t 15),.ld (.t 16),.bb 1 (.t 17) (.t 6),.ld (.t 18),.cd (.int .i64 0) 1 [(0,(.t 19))],.app 1 8 (.t 13) (.t 20),.ld (.t 2),.bb 2 (.t 22) (.t 7),.fA 0 (.t 23),.ld (.t 24),.call 102 [(.t 1),(.t 25),(.t 21)],.bb 1 (.t 0) (.t 26),.ld (.t 27),.a 14 28]) [])) (.two 3 21 [0,1,2,4,5,6,7,8,9,10,11,12,13,14,15,16,17,18,19,20,21,3,22,23,24,25,26,27,28,29] (.leaf (oL [.m 6,.m 4,.fA 5 (.v 7),.fA 5 (.v 7),.fA 5 (.v 7),.m 13,.m 15,.ld (.t 2),.ld (.t 3),.m 14,.bb 2 (.t 8) (.t 9),.fA 1 (.t 10),.ld (.t 11),.call 48 [(.t 12)],.ld (.t 4),.bb 2 (.t 14) (.t 5),.fA 1 (.t 15),.ld (.t 16),.bb 1 (.t 17) (.t 6),.ld (.t 18),.cd (.int .i64 0) 1 [(0,(.t 19))],.app 1 8 (.t 13) (.t 20),.m 14,.bb 2 (.t 7) (.t 22),.fA 0 (.t 23),.ld (.t 24),.call 102 [(.t 1),(.t 25),(.t 21)],.bb 1 (.t 0) (.t 26),.ld (.t 27),.a 14 28]) []) (.leaf (oL [.m 6,.m 4,.fA 5 (.v 7),.fA 5 (.v 7),.fA 5 (.v 7),.m 13,.m 15,.ld (.t 3),.m 14,.bb 2 (.t 7) (.t 8),.fA 1 (.t 9),.ld (.t 10),.call 48 [(.t 11)],.ld (.t 4),.bb 2 (.t 13) (.t 5),.fA 1 (.t 14),.ld (.t 15),.bb 1 (.t 16) (.t 6),.ld (.t 17),.cd (.int .i64 0) 1 [(0,(.t 18))],.app 1 8 (.t 12) (.t 19),.ld (.t 2),.m 14,.bb 2 (.t 21) (.t 22),.fA 0 (.t 23),.ld (.t 24),.call 102 [(.t 1),(.t 25),(.t 20)],.bb 1 (.t 0) (.t 26),.ld (.t 27),.a 14 28]) [])))))))) (.u [.m 15,.bin .add (.t 0) (.i 1),.a 15 1]))))))) .skip) (.u [.m 12,.m 14,.cd (.int .i64 0) 1 [(0,(.t 1))],.app 1 8 (.t 0) (.t 2),.a 12 3])))) (.u [.m 13,.bin .add (.t 0) (.i 1),.a 13 1])))))) (.u [.fA 0 (.v 7),.fA 4 (.t 0),.ld (.t 1),.m 12,.cd (ints []) 1 [(0,(.t 3))],.app 1 24 (.t 2) (.t 4),.fA 0 (.v 7),.fA 4 (.t 6),.st (.t 7) (.t 5)])))))) (.u [.m 11,.bin .add (.t 0) (.i 1),.a 11 1])))))) (.seq (.ek [] (oL [.fA 0 (.v 7),.dN 5 (.t 0),.call 103 [(.t 1)],.not (.t 2)]) [] (.t 3) (.seq (.ops [] [⟨none,.gk [.int .i64 0,.aC (.int .i64 0),.aC (.int .i64 0),.aC (.int .i64 0),.aC (ints []),.aC (.agg [.int .i64 0,ints []]),.aC (.int .i64 0)] []⟩,⟨none,.eJ 7 (.v 1) (.t 0)⟩,⟨none,.bW 2 (.k (.bool false))⟩] []) .ret) .skip) (.seq (.seq (.u [.bW 16 (.i 0)]) (.block 12 (.loop (.seq (.ek [] (oL [.m 16,.fA 5 (.v 7),.ld (.t 1),.len (.t 2),.bin .lss (.t 0) (.t 3)]) [] (.t 4) .skip (.exit 12)) (.seq (.block 13 (.ek [] (oL [.dN 7 (.v 7),.fA 5 (.v 7),.ld (.t 1),.m 16,.bb 2 (.t 2) (.t 3),.dN 2 (.t 4),.call 47 [(.t 0),(.t 5)],.m 16,.bin .neq (.t 6) (.t 7)]) [] (.t 8) (.seq (.ops [] [⟨none,.gk [.int .i64 0,.aC (.int .i64 0),.aC (.int .i64 0),.aC (.int .i64 0),.aC (ints []),.aC (.agg [.int .i64 0,ints []]),.aC (.int .i64 0)] []⟩,⟨none,.eJ 7 (.v 1) (.t 0)⟩,⟨none,.bW 2 (.k (.bool false))⟩] []) .ret) .skip)) (.u [.m 16,.bin .add (.t 0) (.i 1),.a 16 1])))))) (.seq (.seq (.u [.bW 17 (.i 0)]) (.block 14 (.loop (.seq (.ek [] (oL [.m 17,.fA 3 (.v 3),.ld (.t 1),.len (.t 2),.bin .lss (.t 0) (.t 3)]) [] (.t 4) .skip (.exit 14)) (.seq (.block 15 (.ek [] (oL [.dN 7 (.v 7),.fA 3 (.v 3),.ld (.t 1),.m 17,.bb 2 (.t 2) (.t 3),.dN 2 (.t 4),.call 47 [(.t 0),(.t 5)],.dN 7 (.v 7),.fA 4 (.v 3),.ld (.t 8),.m 17,.bb 2 (.t 9) (.t 10),.dN 2 (.t 11),.call 47 [(.t 7),(.t 12)],.bin .neq (.t 6) (.t 13)]) [] (.t 14) (.seq (.ops [] [⟨none,.gk [.int .i64 0,.aC (.int .i64 0),.aC (.int .i64 0),.aC (.int .i64 0),.aC (ints []),.aC (.agg [.int .i64 0,ints []]),.aC (.int .i64 0)] []⟩,⟨none,.eJ 7 (.v 1) (.t 0)⟩,⟨none,.bW 2 (.k (.bool false))⟩] []) .ret) .skip)) (.u [.m 17,.bin .add (.t 0) (.i 1),.a 17 1])))))) (.seq (.u [.dN 7 (.v 7),.eJ 7 (.v 1) (.t 0),.bW 2 (.k (.bool true))]) .ret)))))))))))))))
def HW:List Nat:=[0,2,3,1,4,5,6,7,8,9,10,11,12,13,14,15,16,17]
def Fu:List RS:=[.c 1 7 true,.t 2]
theorem OX:lH Go.Proofs.Tryz.prog Go.Proofs.Tryz.f61 HW Bs 1 Fu=true:=by decide +kernel
theorem RR(s:Sch)(h:s.ok=true):bV Go.Proofs.Tryz.prog 61 [Sch.d s] [] (AN s):=by
 obtain⟨hk1,hlf,hrt⟩:=fg h;have hs:=ga hk1;have hto:=hs.to;have hf8:=hs.f8;have h0:=hs.n0;have h8:=hs.n8;have no:s.bn=none->AN s (.o (.af [.agg [.int .i64 0,ints [],ints [],ints [],aO [],U Pth.d Pth.zero [],ints []],.bool false])) []:=fun hn=>⟨rfl,_,rfl,⟨ai.zero,[],[]⟩,[],false,rfl,fun h=>by(cases h),fun _=>⟨hn,rfl,rfl⟩⟩
 refine EW .tree Go.Proofs.Tryz.func61 rfl OX rfl ⟨by simp only[List.length_cons,List.length_nil];decide,by simp only[List.length_nil];decide⟩ rfl (by intro h;first | rfl | cases h) ?_;unfold Bs HW Fu;simp only[go_sem];refine mS [] false (bV.view (Q:=fun l=>∃(o:List Pth)(ok:Bool),l=[U Pth.d Pth.zero o,.bool ok]/\o.length<=500/\(ok=true->AM s o)/\(ok=false->¬s.fits)) (RQ s hs)) ?_;rintro _ _ ⟨rfl,_,rfl,list,ok,rfl,hl,hA,hno⟩;refine⟨(by repeat(first | exact trivial | refine⟨(fun h=>by cases h),?_⟩)),(fun h=>by cases h),?_⟩;simp only[go_sem];refine⟨fun hk=>?_,fun hk=>?_⟩
 ·exact⟨_,_,no (l8 (.many (hno (by simpa using hk)))),rfl,rfl,trivial⟩
 have hX:=hA (by simpa using hk);have hA:=hX.a;refine mS [] false (RP s list h hA hl) ?_;rintro _ _ ⟨rfl,P,rfl,hPl,hP⟩;refine⟨(by repeat(first | exact trivial | refine⟨(fun h=>by cases h),?_⟩)),(fun h=>by cases h),?_⟩;simp only[go_sem];refine ak (RN list.length P (by omega) (by omega) fun k hk=>(hP.ok h hA).pr.get hk) rfl (.inl (bL _)) ?_;simp only[go_sem];have hC:=(hP.ok h hA).cls uT;have hcx:=gF.Na h hA hX.nd hP uT;generalize dK (b7 (br list.length) P)=cl at hC hcx;have hcl:=hC.len;refine aI [] (fun(p:Nat×List Pth)=>[(7,.box [.int .i64 0,.o (ints []),.o (ints []),.o (ints []),.o (aO []),.o (U ep none (p.2.map some)),.o (ints [])]),(8,.int .i64 p.1)]) (fun p=>p.1<=list.length/\p.2.length<=p.1/\ig s list cl p.1 p.2/\eZ s list cl p.1 p.2) (fun p=>list.length-p.1) (0,[]) (by simp only[go_sem];rfl) ⟨Nat.zero_le _,Nat.le_refl _,ig.zero,eZ.zero⟩ rfl ?_;rintro⟨i,ls⟩ ⟨hi,hls,hL,hJ⟩;simp only at hi hls hL hJ;simp only[go_sem];refine⟨fun h1=>?_,fun h1=>?_⟩
 ·obtain⟨y,hy⟩:=hA.at' h1
  have h6:=(bw.1 hy).2.1;rw[List.length_map]
  refine⟨by omega,fun h2=>⟨h1,fun h3=>⟨_,_,no (l8 (hJ.fZ h hA hX.nZ hcx h1 h2 (by omega))),rfl,rfl,trivial⟩,fun h3=>⟨h1,rfl,by omega,(i+1,ls++[list.getD i Pth.zero]),⟨h1,by simp only[List.length_append,List.length_singleton];omega,hL.new h1 h2 (by
   have h3:(list.getD i Pth.zero).ed.length≠6:=fun e=>by rw[e] at h3;cases h3
   omega),hJ.new h1 h2⟩,by simp only;omega,by rw[aH h1 (by simp only[maxLen];omega)]⟩⟩,
   fun h2=>⟨(i+1,ls),⟨h1,by simp only;omega,hL.old hC h1 (by simpa using h2),hJ.old (fun m=>hC.f i m h1) (by simpa using h2)⟩,by simp only;omega,by rw[aH h1 (by simp only[maxLen];omega)]⟩⟩
 obtain rfl:i=list.length:=by omega
 have hlm:(ls.map some).length=ls.length:=List.length_map _;have hat:=fun {x ed y} hy=>eZ.no h hA hX.nZ hcx hJ (x:=x) (ed:=ed) (y:=y) hy
 have hLs:=hJ.done h hA hX.nZ hcx
 have hpl:∀i,i<list.length->(list.getD i Pth.zero).ed.length<=1048576:=fun i hi=>by
  obtain⟨y,hy⟩:=hA.at' hi;have:=(bw.1 hy).2.1;omega
 rw[List.length_map];refine⟨fun h2=>⟨_,_,no (l8 (.iE ls hLs fun ha=>by have:=ha.2.1;omega)),rfl,rfl,trivial⟩,fun h40=>?_⟩;refine aI [] (fun(p:Nat×List Int)=>[(7,.box [.int .i64 s.nd,.o (ints []),.o (ints []),.o (ints p.2),.o (aO []),.o (U ep none (ls.map some)),.o (ints [])]),(9,.int .i64 p.1)]) (fun p=>(p.1:Int)<=s.nd/\p.2=mZ s ls p.1) (fun p=>s.nd.toNat-p.1) (0,[]) (by simp only[go_sem];rfl) ⟨h0,rfl⟩ rfl ?_;rintro⟨x,iw⟩ ⟨hx,hidl⟩;simp only at hx hidl;have hidn:iw.length=x:=by rw[hidl];exact nL
 simp only[go_sem];refine⟨fun h2=>?_,fun h2=>?_⟩
 ·refine ak (re list x [] (by omega) hpl) rfl (.inl rfl) ?_
  obtain⟨j,k,hj1,hj2,hj3,_,hj4,_⟩:=hat (oK (s:=s) (x:=x) (by omega) h2);simp only[go_sem,hj1];exact⟨by omega,by omega,(x+1,iw++[cl.getD j 0]),⟨by simp only;omega,by rw[hidl,hj3,<-hj4];exact nM.symm⟩,by simp only;omega,by rw[aH (n:=9) (by omega) (by decide)]⟩
 obtain rfl:x=s.nd.toNat:=by omega
 refine aI [] (fun(p:Nat×List Int)=>[(7,.box [.int .i64 s.nd,.o (ints []),.o (ints []),.o (ints iw),.o (aO []),.o (U ep none (ls.map some)),.o (ints p.2)]),(10,.int .i64 p.1)])
  (fun p=>p.1<=s.fr.length/\p.2=oI s ls p.1) (fun p=>s.fr.length-p.1) (0,[]) (by simp only[go_sem];rfl) ⟨Nat.zero_le _,rfl⟩ rfl ?_
 rintro⟨k,ed⟩ ⟨hk,hed⟩;simp only at hk hed;have hedl:ed.length=k:=by rw[hed];exact nL
 simp only[go_sem];refine⟨fun h3=>?_,fun h3=>?_⟩
 ·have hfr:=gw hs.fr h3
  refine⟨h3,ak (re list (s.fr.getD k 0) [(k:Int)] (by omega) hpl) rfl (.inl rfl) ?_⟩;obtain⟨j,m,hj1,hj2,hj3,hm1,hm2,_⟩:=hat (mT (p:=⟨s.fr.getD k 0,[]⟩) (oK hfr.1 hfr.2) h3 (show(0:Nat)<6 by decide));rw[List.nil_append] at hj1;simp only[go_sem,hj1];exact⟨by omega,by omega,(k+1,ed++[(m:Int)]),⟨h3,by rw[hed,<-hm2];exact nM.symm⟩,by simp only;omega,by rw[aH h3 (by simp only[maxLen];omega),hj3]⟩
 obtain rfl:k=s.fr.length:=by omega
 refine aI [12,13,14,15] (fun(p:Nat×List Int×List Int×List (List Int))=>[(7,.box [.int .i64 s.nd,.o (ints p.2.1),.o (ints p.2.2.1),.o (ints iw),.o (aO p.2.2.2),.o (U ep none (ls.map some)),.o (ints ed)]),(11,.int .i64 p.1)])
  (fun p=>p.1<=ls.length/\p.2.1=(ls.take p.1).map Pth.st/\p.2.2.1=(ls.take p.1).map s.en/\p.2.2.2=uY s ls p.1) (fun p=>ls.length-p.1) (0,[],[],[]) (by simp only[go_sem];rfl) ⟨Nat.zero_le _,rfl,rfl,rfl⟩ rfl ?_
 rintro⟨f,frl,tol,col⟩ ⟨hf,hfre,htoe,hcoe⟩;simp only at hf hfre htoe hcoe;have hfrl:frl.length=f:=by rw[hfre,List.length_map,List.length_take];omega
 have htol:tol.length=f:=by rw[htoe,List.length_map,List.length_take];omega
 have hcol:col.length=f:=by rw[hcoe];exact nL
 by_cases h4:f<ls.length
 ·have hg:=some_get (z:=Pth.zero) h4
  have he:∃y,s.aF (ls.getD f Pth.zero)=some y:=by
   obtain⟨j,_,hj,_,e⟩:=hL.ex f h4;rw[e];exact hA.at' hj
  obtain⟨y,hy⟩:=he;simp only[go_sem,hg,hlm,h4,forall_const,not_true_eq_false];refine⟨by decide,by omega,⟨by decide,by decide⟩,ak (me s (ls.getD f Pth.zero) y hto hy) rfl (.inl rfl) ?_⟩;simp only[go_sem];refine⟨by omega,?_⟩;refine aI [14,15] (fun(p:Nat×List Int)=>[(12,.o (ints p.2)),(13,.int .i64 p.1)]) (fun p=>p.1<=ls.length/\p.2=kU s ls f p.1) (fun p=>ls.length-p.1) (0,[]) (by simp only[go_sem];rfl) ⟨Nat.zero_le _,rfl⟩ rfl ?_;rintro⟨g,row⟩ ⟨hgl,hrowe⟩;simp only at hgl hrowe;have hrow:row.length=g:=by rw[hrowe];exact nL
  by_cases h5:g<ls.length
  ·have hg2:=some_get (z:=Pth.zero) h5
   obtain⟨z,hz⟩:∃z,s.aF (ls.getD g Pth.zero)=some z:=by
    obtain⟨j,_,hj,_,e⟩:=hL.ex g h5;rw[e];exact hA.at' hj
   simp only[go_sem,hg,hg2,hlm,h4,h5,forall_const,not_true_eq_false];refine⟨by decide,⟨by decide,by decide⟩,ak (me s (ls.getD f Pth.zero) y hto hy) rfl (.inl rfl) ?_⟩;have hwg:=aH h5 (show ls.length<=maxLen by simp only[maxLen];omega);simp only[go_sem];refine⟨fun e=>?_,fun e=>⟨by omega,(g+1,row++[-1]),⟨h5,by rw[hrowe];exact(R3 hy (by simpa using e)).symm⟩,by simp only;omega,by rw[hwg]⟩⟩;generalize hG:ls.getD g Pth.zero=G at hz e;have hG6:=(bw.1 hz).2.1;refine aI [] (fun(p:Nat×Nat)=>[(14,.int .i64 p.2),(15,.int .i64 p.1)]) (fun p=>p.1<=G.ed.length/\p.2<ls.length/\(p.2:Int)=(G.ed.take p.1).foldl (s.jq ls) (f:Int)/\∃u v,s.aF (ls.getD p.2 Pth.zero)=some u/\bp s.fr s.to u (G.ed.drop p.1)=some v) (fun p=>G.ed.length-p.1) (0,f) (by simp only[go_sem];rfl) ⟨Nat.zero_le _,h4,rfl,y,z,hy,by rw[<-e];exact(bw.1 hz).2.2⟩ rfl ?_;rintro⟨k,hh⟩ ⟨hk,hhl,hfo,u,v,hu,hv⟩;simp only at hk hhl hfo hu hv;have hg3:=some_get (z:=Pth.zero) hhl;by_cases h6:k<G.ed.length
   ·have hd:=si (fr:=s.fr) (to:=s.to) (x:=u) h6
    rw[hv] at hd;split at hd
    ·rename_i hc
     simp only[bm,Bool.and_eq_true,decide_eq_true_eq,beq_iff_eq] at hc;obtain⟨k0,hek⟩:∃k0:Nat,G.ed.getD k 0=k0:=⟨(G.ed.getD k 0).toNat,by omega⟩;rw[hek,Int.toNat_natCast] at hc hd;have H6:=hL.fZ hh hhl;obtain⟨j,m,hj1,hj2,hj3,hm1,hmn,hm2,hm3⟩:=hat (mT (p:=ls.getD hh Pth.zero) (e:=k0) (by rw[hc.2];exact hu) (by omega) H6);rw[<-hek] at hj1 hmn
     have hfo2:(m:Int)=(G.ed.take (k+1)).foldl (s.jq ls) (f:Int):=by
      rw[b9 h6 0,List.foldl_append,<-hfo,<-hmn];rfl
     have hwk:=aH h6 (show G.ed.length<=maxLen by simp only[maxLen];omega);have hnx:∃u v,s.aF (ls.getD m Pth.zero)=some u/\bp s.fr s.to u (G.ed.drop (k+1))=some v:=⟨_,v,hm3,hd.symm⟩;simp only[go_sem,hg2,hG,hg3,hlm,h5,hhl,h6,forall_const]
     with_reducible (repeat' apply And.intro)
     all_goals(first
      | decide
      | omega
      | (refine ak (jV (ls.getD hh Pth.zero).ed (by omega)) rfl (.inl (bL _)) ?_
         simp only[go_sem,hg2,hG,hg3,hlm,h5,hhl,h6]
         with_reducible (repeat' apply And.intro)
         all_goals(first
          | decide
          | omega
          | (refine ak (re list _ _ (by omega) hpl) rfl (.inl rfl) ?_
             simp only[go_sem,hj1]
             exact⟨by omega,(k+1,m),⟨h6,hm1,hfo2,hnx⟩,by simp only;omega,by rw[hwk,hj3]⟩))))
    ·cases hd
   simp only[go_sem,hg2,hG,hlm,h5,h6,forall_const,false_implies];exact⟨by decide,by omega,(g+1,row++[(hh:Int)]),⟨h5,by rw[hrowe,hfo,List.take_of_length_le (by omega),<-hG];exact(R4 hy (by rw[hG,e])).symm⟩,by simp only;omega,by rw[hwg]⟩
  obtain rfl:g=ls.length:=by omega
  have hwf:=aH h4 (show ls.length<=maxLen by simp only[maxLen];omega);simp only[go_sem,hlm,h5,forall_const,false_implies,not_true_eq_false,not_false_eq_true];refine⟨by omega,(f+1,frl++[(ls.getD f Pth.zero).st],tol++[y],col++[row]),⟨h4,?_,?_,?_⟩,by simp only;omega,by rw[hwf]⟩
  ·rw[hfre,b9 h4 Pth.zero,List.map_append];rfl
  ·rw[htoe,b9 h4 Pth.zero,List.map_append,<-oJ hy];rfl
  ·rw[hcoe,hrowe];exact nM.symm
 obtain rfl:f=ls.length:=by omega
 simp only[go_sem,hlm,h4,forall_const,false_implies];rw[List.take_length] at hfre htoe;have hT:(⟨⟨s.nd,frl,tol,iw,col⟩,ls,ed⟩:au)=s.cM ls:=by rw[hfre,htoe,hidl,hcoe,hed];rfl
 have hTc:(⟨s.nd,frl,tol,iw,col⟩:ai)=(s.cM ls).c:=congrArg au.c hT;refine ak (RH ⟨s.nd,frl,tol,iw,col⟩) rfl (.inl rfl) ?_;simp only[go_sem];refine⟨fun hB=>⟨_,_,no (sq hLs fun hg=>?_),rfl,rfl,trivial⟩,fun hB=>?_⟩
 ·unfold Sch.fx at hg
  rw[hTc] at hB;simp only[Bool.and_eq_true] at hg;rw[hg.1.1] at hB;cases hB
 have hB:(s.cM ls).c.jb=true:=by rw[hTc] at hB;simpa using hB
 have hx:fL s ⟨⟨s.nd,frl,tol,iw,col⟩,ls,ed⟩:=by rw[hT];exact yw h hLs hB
 have hxl:(s.cM ls).ls=ls:=rfl;refine aI [] (fun(f:Nat)=>[(16,.int .i64 f)]) (fun f=>f<=ls.length/\∀j,j<f->(s.cM ls).arr (ls.getD j Pth.zero) (ls.getD j Pth.zero).ed.length=j) (fun f=>ls.length-f) 0 (by simp only[go_sem];rfl) ⟨Nat.zero_le _,fun j hj=>absurd hj (Nat.not_lt_zero _)⟩ rfl ?_;rintro f ⟨hf2,hfa⟩;by_cases h7:f<ls.length
 ·have hg:=some_get (z:=Pth.zero) h7
  have hwf:=aH h7 (show ls.length<=maxLen by simp only[maxLen];omega)
  obtain⟨y,hy⟩:∃y,s.aF (ls.getD f Pth.zero)=some y:=by
   obtain⟨j,_,hj,_,e⟩:=hL.ex f h7;rw[e];exact hA.at' hj
  simp only[go_sem,hg,hlm,h7,forall_const];refine⟨⟨by decide,by decide⟩,ak (xy hx hy) rfl (.inl rfl) ?_⟩;rw[hT];simp only[go_sem];refine⟨fun hn=>⟨_,_,no (sq hLs fun hg=>?_),rfl,rfl,trivial⟩,fun hn=>⟨f+1,⟨h7,fun j hj=>?_⟩,by omega,by rw[hwf]⟩⟩
  ·unfold Sch.fx at hg
   simp only[Bool.and_eq_true,jw,beq_iff_eq] at hg;rw[bne_iff_ne] at hn;exact hn (hg.1.2 f h7)
  ·by_cases hjf:j<f
   ·exact hfa j hjf
   ·obtain rfl:j=f:=by omega
    rwa [bne_eq_false_iff_eq] at hn
 obtain rfl:f=ls.length:=by omega
 simp only[go_sem,hlm,h7,forall_const,false_implies];refine aI [] (fun(i:Nat)=>[(17,.int .i64 i)]) (fun i=>i<=s.lf.length/\∀j,j<i->(s.cM ls).arr (s.lf.getD j Pth.zero) (s.lf.getD j Pth.zero).ed.length=(s.cM ls).arr (s.rt.getD j Pth.zero) (s.rt.getD j Pth.zero).ed.length) (fun i=>s.lf.length-i) 0 (by simp only[go_sem];rfl) ⟨Nat.zero_le _,fun j hj=>absurd hj (Nat.not_lt_zero _)⟩ rfl ?_;rintro i ⟨hi,hia⟩;simp only[go_sem];refine⟨fun h8=>?_,fun h8=>⟨_,_,⟨rfl,_,rfl,s.cM ls,ls.map some,true,by rw[<-hT];rfl,fun _=>⟨rfl,l8 (.yes ls ⟨list,hX.nd,hA,hX.len⟩ hLs ⟨fun p hp=>?_,by omega,?_⟩)⟩,fun h=>by cases h⟩,rfl,rfl,trivial⟩⟩
 rotate_left
 ·obtain⟨k,hk,rfl⟩:=dZ (d:=Pth.zero) hp
  exact hL.fZ k hk
 ·unfold Sch.fx
  simp only[Bool.and_eq_true,jw,beq_iff_eq];exact⟨⟨hB,fun j hj=>hfa j hj⟩,fun j hj=>hia j (by omega)⟩
 obtain⟨z,hp,hq,aG⟩:=ok_eq h h8;refine⟨h8,ak (xy hx hp) rfl (.inl rfl) ?_⟩;simp only[go_sem];refine⟨by omega,ak (xy hx hq) rfl (.inl rfl) ?_⟩;rw[hT];simp only[go_sem];refine⟨fun hn=>⟨_,_,no (sq hLs fun hg=>?_),rfl,rfl,trivial⟩,fun hn=>⟨i+1,⟨h8,fun j hj=>?_⟩,by omega,by rw[aH h8 (by simp only[maxLen];omega)]⟩⟩
 ·unfold Sch.fx at hg
  simp only[Bool.and_eq_true,jw,beq_iff_eq] at hg;rw[bne_iff_ne] at hn;exact hn (hg.2 i h8)
 ·by_cases hji:j<i
  ·exact hia j hji
  ·obtain rfl:j=i:=by omega
   rwa [bne_eq_false_iff_eq] at hn
end Go.D3
namespace Go.D3
open Go
set_option maxHeartbeats 4000000
set_option maxRecDepth 100000
structure Smp where
 src:Sch
 aJ:Sch
 bq:List (Int)
 bh:List (Pth)
def Smp.cells(x:Smp):List D:=[.int .i64 x.src.nd,ints x.src.fr,ints x.src.to,U Pth.d Pth.zero x.src.lf,U Pth.d Pth.zero x.src.rt,.int .i64 x.aJ.nd,ints x.aJ.fr,ints x.aJ.to,U Pth.d Pth.zero x.aJ.lf,U Pth.d Pth.zero x.aJ.rt,ints x.bq,U Pth.d Pth.zero x.bh]
def Smp.d(x:Smp):D:=.agg x.cells
def Smp.zero:Smp:=⟨Sch.zero,Sch.zero,[],[]⟩
def Smp.cost(x:Smp):Nat:=Sch.cost x.src+Sch.cost x.aJ+x.bq.length+cN Pth.cost x.bh
theorem SY:D.slice (.agg [.int .i64 0,ints [],ints [],U Pth.d Pth.zero [],U Pth.d Pth.zero [],.int .i64 0,ints [],ints [],U Pth.d Pth.zero [],U Pth.d Pth.zero [],ints [],U Pth.d Pth.zero []]) []=U Smp.d Smp.zero []:=rfl
theorem Qy{n:Nat}:D.slice (.agg [.int .i64 0,ints [],ints [],U Pth.d Pth.zero [],U Pth.d Pth.zero [],.int .i64 0,ints [],ints [],U Pth.d Pth.zero [],U Pth.d Pth.zero [],ints [],U Pth.d Pth.zero []]) (List.replicate n (.agg [.int .i64 0,ints [],ints [],U Pth.d Pth.zero [],U Pth.d Pth.zero [],.int .i64 0,ints [],ints [],U Pth.d Pth.zero [],U Pth.d Pth.zero [],ints [],U Pth.d Pth.zero []]))=U Smp.d Smp.zero (List.replicate n Smp.zero):=by unfold U;rw[List.map_replicate];rfl
theorem Sw{l:List Smp}{i:Nat}{srcnd:Int}{srcfr:List (Int)}{srcto:List (Int)}{srclf:List (Pth)}{srcrt:List (Pth)}{tgtnd:Int}{tgtfr:List (Int)}{tgtto:List (Int)}{tgtlf:List (Pth)}{tgtrt:List (Pth)}{bq:List (Int)}{bh:List (Pth)}:cY (.o (U Smp.d Smp.zero l)) [(i,0)] 0 [.int .i64 srcnd,ints srcfr,ints srcto,U Pth.d Pth.zero srclf,U Pth.d Pth.zero srcrt,.int .i64 tgtnd,ints tgtfr,ints tgtto,U Pth.d Pth.zero tgtlf,U Pth.d Pth.zero tgtrt,ints bq,U Pth.d Pth.zero bh]=.o (U Smp.d Smp.zero (l.set i ⟨⟨srcnd,srcfr,srcto,srclf,srcrt⟩,⟨tgtnd,tgtfr,tgtto,tgtlf,tgtrt⟩,bq,bh⟩)):=mi (n:=12) (fun _=>⟨_,rfl,rfl⟩) rfl
attribute [go_sem] Smp.cells.eq_1 Smp.d.eq_1 SY Qy
theorem IH{l:List Smp}{srcnd:Int}{srcfr:List (Int)}{srcto:List (Int)}{srclf:List (Pth)}{srcrt:List (Pth)}{tgtnd:Int}{tgtfr:List (Int)}{tgtto:List (Int)}{tgtlf:List (Pth)}{tgtrt:List (Pth)}{bq:List (Int)}{bh:List (Pth)}:(U Smp.d Smp.zero l).c6 [.agg [.int .i64 srcnd,ints srcfr,ints srcto,U Pth.d Pth.zero srclf,U Pth.d Pth.zero srcrt,.int .i64 tgtnd,ints tgtfr,ints tgtto,U Pth.d Pth.zero tgtlf,U Pth.d Pth.zero tgtrt,ints bq,U Pth.d Pth.zero bh]]=U Smp.d Smp.zero (l++[⟨⟨srcnd,srcfr,srcto,srclf,srcrt⟩,⟨tgtnd,tgtfr,tgtto,tgtlf,tgtrt⟩,bq,bh⟩]):=kE (f:=Smp.d) (x:=⟨⟨srcnd,srcfr,srcto,srclf,srcrt⟩,⟨tgtnd,tgtfr,tgtto,tgtlf,tgtrt⟩,bq,bh⟩)
attribute [go_sem high] Sw IH
theorem sW(x:Smp):x.d.bd=true:=by simp only[Smp.d,Smp.cells,D.bd,dU,bL,jP ph,Bool.and_self]
structure a6 where
 src:ai
 aJ:ai
 ei:List (Int)
 cw:List (Int)
def a6.cells(x:a6):List D:=[.int .i64 x.src.ob,ints x.src.fr,ints x.src.to,ints x.src.aL,aO x.src.co,.int .i64 x.aJ.ob,ints x.aJ.fr,ints x.aJ.to,ints x.aJ.aL,aO x.aJ.co,ints x.ei,ints x.cw]
def a6.d(x:a6):D:=.agg x.cells
def a6.zero:a6:=⟨ai.zero,ai.zero,[],[]⟩
def a6.cost(x:a6):Nat:=ai.cost x.src+ai.cost x.aJ+x.ei.length+x.cw.length
theorem SS:D.slice (.agg [.int .i64 0,ints [],ints [],ints [],aO [],.int .i64 0,ints [],ints [],ints [],aO [],ints [],ints []]) []=U a6.d a6.zero []:=rfl
theorem Qu{n:Nat}:D.slice (.agg [.int .i64 0,ints [],ints [],ints [],aO [],.int .i64 0,ints [],ints [],ints [],aO [],ints [],ints []]) (List.replicate n (.agg [.int .i64 0,ints [],ints [],ints [],aO [],.int .i64 0,ints [],ints [],ints [],aO [],ints [],ints []]))=U a6.d a6.zero (List.replicate n a6.zero):=by unfold U;rw[List.map_replicate];rfl
theorem Sr{l:List a6}{i:Nat}{srcob:Int}{srcfr:List (Int)}{srcto:List (Int)}{srcidn:List (Int)}{srcco:List (List (Int))}{tgtob:Int}{tgtfr:List (Int)}{tgtto:List (Int)}{tgtidn:List (Int)}{tgtco:List (List (Int))}{ei:List (Int)}{cw:List (Int)}:cY (.o (U a6.d a6.zero l)) [(i,0)] 0 [.int .i64 srcob,ints srcfr,ints srcto,ints srcidn,aO srcco,.int .i64 tgtob,ints tgtfr,ints tgtto,ints tgtidn,aO tgtco,ints ei,ints cw]=.o (U a6.d a6.zero (l.set i ⟨⟨srcob,srcfr,srcto,srcidn,srcco⟩,⟨tgtob,tgtfr,tgtto,tgtidn,tgtco⟩,ei,cw⟩)):=mi (n:=12) (fun _=>⟨_,rfl,rfl⟩) rfl
attribute [go_sem] a6.cells.eq_1 a6.d.eq_1 SS Qu
theorem ID{l:List a6}{srcob:Int}{srcfr:List (Int)}{srcto:List (Int)}{srcidn:List (Int)}{srcco:List (List (Int))}{tgtob:Int}{tgtfr:List (Int)}{tgtto:List (Int)}{tgtidn:List (Int)}{tgtco:List (List (Int))}{ei:List (Int)}{cw:List (Int)}:(U a6.d a6.zero l).c6 [.agg [.int .i64 srcob,ints srcfr,ints srcto,ints srcidn,aO srcco,.int .i64 tgtob,ints tgtfr,ints tgtto,ints tgtidn,aO tgtco,ints ei,ints cw]]=U a6.d a6.zero (l++[⟨⟨srcob,srcfr,srcto,srcidn,srcco⟩,⟨tgtob,tgtfr,tgtto,tgtidn,tgtco⟩,ei,cw⟩]):=kE (f:=a6.d) (x:=⟨⟨srcob,srcfr,srcto,srcidn,srcco⟩,⟨tgtob,tgtfr,tgtto,tgtidn,tgtco⟩,ei,cw⟩)
attribute [go_sem high] Sr ID
theorem ny(x:a6):x.d.bd=true:=by simp only[a6.d,a6.cells,D.bd,dU,bL,qI,Bool.and_self]
def zQ:List Nat:=[0,1,4]
def GJ:Sl:=ae Go.Proofs.Tryz.types Go.Proofs.Tryz.f24 zQ []
theorem Ol:aD Go.Proofs.Tryz.prog Go.Proofs.Tryz.f24 zQ GJ 2=true:=by decide +kernel
theorem tz(a:List (Int))(left:Int)(h0 : 0<=left)(h1:left<=1048576):al Go.Proofs.Tryz.prog 24 [.v (ints a),.v (.int .i64 left)] (.int .i64 (sb left (a.length))):=by
 refine eI fun hw=>?_
 simp only[c7,eL] at hw;obtain⟨⟨hw,-⟩,-⟩:=hw;refine aA Go.Proofs.Tryz.func24 Ol ?_;unfold GJ ae zQ;simp only[go_sem];rw[H8 h0 (by simp only[maxLen];omega) hw];unfold sb;refine⟨fun h=>?_,fun h=>?_⟩
 ·rw[if_neg (by omega)]
 ·rw[if_pos (by omega)]
def zR:List Nat:=[0,1,4,2]
def GK:Sl:=ae Go.Proofs.Tryz.types Go.Proofs.Tryz.f70 zR []
theorem Om:aD Go.Proofs.Tryz.prog Go.Proofs.Tryz.f70 zR GK 2=true:=by decide +kernel
theorem Rp(a:Pth)(left:Int)(h0 : 0<=left)(h1:left<=1048576):al Go.Proofs.Tryz.prog 70 [.v (Pth.d a),.v (.int .i64 left)] (.int .i64 (sb left (Pth.cost a))):=by
 refine aA Go.Proofs.Tryz.func70 Om ?_;unfold GK ae zR;simp only[go_sem];refine ak (tz a.ed _ h0 h1) rfl (.inl rfl) ?_;simp only[go_sem];refine⟨fun hh=>?_,fun hh=>?_⟩
 ·rw[kV h0 hh (by unfold Pth.cost;omega)]
 all_goals rfl
def zS:List Nat:=[0,1,4,5]
def GL:Sl:=ae Go.Proofs.Tryz.types Go.Proofs.Tryz.f25 zS []
theorem On:aD Go.Proofs.Tryz.prog Go.Proofs.Tryz.f25 zS GL 2=true:=by decide +kernel
theorem xI(a:List (Pth))(left:Int)(h0 : 0<=left)(h1:left<=1048576):al Go.Proofs.Tryz.prog 25 [.v (U Pth.d Pth.zero a),.v (.int .i64 left)] (.int .i64 (sb left (cN Pth.cost a))):=by
 refine eI fun hw=>?_
 simp only[c7,eL] at hw;obtain⟨⟨hw,-⟩,-⟩:=hw;refine aA Go.Proofs.Tryz.func25 On ?_;unfold GL ae zS;simp only[go_sem];rw[H8 h0 (by simp only[maxLen];omega) hw];refine⟨fun h=>?_,fun h=>?_⟩
 ·unfold sb cN;rw[if_neg (by omega)]
 refine aI [] (fun(i:Nat)=>[(1,.int .i64 (left-a.length-(((a.take i).map Pth.cost).sum:Nat))),(3,.int .i64 i)]) (fun i=>i<=a.length/\0<=left-a.length-(((a.take i).map Pth.cost).sum:Nat)) (fun i=>a.length-i) 0 rfl ⟨Nat.zero_le _,by simp;omega⟩ ?_ ?_
 ·simp only[go_sem,List.take_zero,List.map_nil,List.sum_nil];simp
 rintro i ⟨hi,ha⟩;simp only[go_sem];refine⟨fun h2=>⟨h2,ak (Rp (a.getD i Pth.zero) _ ha (by omega)) rfl (.inl rfl) ?_⟩,fun h2=>?_⟩
 ·simp only[go_sem]
  refine⟨fun h3=>?_,fun h3=>?_⟩
  ·rw[Sb h2 _ h3]
  ·obtain⟨e1,e2⟩:=R9 h2 _ h3
   exact⟨i+1,⟨by omega,e2⟩,by omega,by rw[e1,aH h2 hw]⟩
 ·rw[R8 hi h2 ha]
def zT:List Nat:=[0,1,4,2]
def GM:Sl:=ae Go.Proofs.Tryz.types Go.Proofs.Tryz.f23 zT []
theorem Oo:aD Go.Proofs.Tryz.prog Go.Proofs.Tryz.f23 zT GM 2=true:=by decide +kernel
theorem Fb(a:Sch)(left:Int)(h0 : 0<=left)(h1:left<=1048576):al Go.Proofs.Tryz.prog 23 [.v (Sch.d a),.v (.int .i64 left)] (.int .i64 (sb left (Sch.cost a))):=by
 refine aA Go.Proofs.Tryz.func23 Oo ?_;unfold GM ae zT;simp only[go_sem];refine ak (tz a.fr _ h0 h1) rfl (.inl rfl) ?_;simp only[go_sem];refine⟨fun hh=>?_,fun hh=>?_⟩
 ·rw[kV h0 hh (by unfold Sch.cost;omega)]
 refine ak (tz a.to _ (pK hh) (Int.le_trans (pJ _ h0) h1)) rfl (.inl rfl) ?_;simp only[go_sem];rw[pI hh];refine⟨fun hh=>?_,fun hh=>?_⟩
 ·rw[kV h0 hh (by unfold Sch.cost;omega)]
 refine ak (xI a.lf _ (pK hh) (Int.le_trans (pJ _ h0) h1)) rfl (.inl rfl) ?_;simp only[go_sem];rw[pI hh];refine⟨fun hh=>?_,fun hh=>?_⟩
 ·rw[kV h0 hh (by unfold Sch.cost;omega)]
 refine ak (xI a.rt _ (pK hh) (Int.le_trans (pJ _ h0) h1)) rfl (.inl rfl) ?_;simp only[go_sem];rw[pI hh];refine⟨fun hh=>?_,fun hh=>?_⟩
 ·rw[kV h0 hh (by unfold Sch.cost;omega)]
 all_goals rfl
def zU:List Nat:=[0,1,4,2]
def GN:Sl:=ae Go.Proofs.Tryz.types Go.Proofs.Tryz.f6 zU []
theorem Ot:aD Go.Proofs.Tryz.prog Go.Proofs.Tryz.f6 zU GN 2=true:=by decide +kernel
theorem Rq(a:Smp)(left:Int)(h0 : 0<=left)(h1:left<=1048576):al Go.Proofs.Tryz.prog 6 [.v (Smp.d a),.v (.int .i64 left)] (.int .i64 (sb left (Smp.cost a))):=by
 refine aA Go.Proofs.Tryz.func6 Ot ?_;unfold GN ae zU;simp only[go_sem];refine ak (Fb a.src _ h0 h1) rfl (.inl rfl) ?_;simp only[go_sem];refine⟨fun hh=>?_,fun hh=>?_⟩
 ·rw[kV h0 hh (by unfold Smp.cost;omega)]
 refine ak (Fb a.aJ _ (pK hh) (Int.le_trans (pJ _ h0) h1)) rfl (.inl rfl) ?_;simp only[go_sem];rw[pI hh];refine⟨fun hh=>?_,fun hh=>?_⟩
 ·rw[kV h0 hh (by unfold Smp.cost;omega)]
 refine ak (tz a.bq _ (pK hh) (Int.le_trans (pJ _ h0) h1)) rfl (.inl rfl) ?_;simp only[go_sem];rw[pI hh];refine⟨fun hh=>?_,fun hh=>?_⟩
 ·rw[kV h0 hh (by unfold Smp.cost;omega)]
 refine ak (xI a.bh _ (pK hh) (Int.le_trans (pJ _ h0) h1)) rfl (.inl rfl) ?_;simp only[go_sem];rw[pI hh];refine⟨fun hh=>?_,fun hh=>?_⟩
 ·rw[kV h0 hh (by unfold Smp.cost;omega)]
 all_goals rfl
def zV:List Nat:=[0,2,3,4]
def GO:Sl:=ae Go.Proofs.Tryz.types Go.Proofs.Tryz.f29 zV []
theorem Ou:aD Go.Proofs.Tryz.prog Go.Proofs.Tryz.f29 zV GO 1=true:=by decide +kernel
theorem tA(a:List (Int))(hs:a.length<=1048576):al Go.Proofs.Tryz.prog 29 [.v (ints a)] (ints a):=by
 have hm:a.length<=maxLen:=by simp only[maxLen];omega
 refine aA Go.Proofs.Tryz.func29 Ou ?_;unfold GO ae zV;simp only[go_sem];refine⟨by omega,?_⟩;refine aI [] (fun(i:Nat)=>[(2,.o (ints (dM a 0 i))),(3,.int .i64 i)]) (fun i=>i<=a.length) (fun i=>a.length-i) 0 rfl (Nat.zero_le _) ?_ ?_
 ·simp only[go_sem,u6];rfl
 rintro i hi;simp only[go_sem];exact⟨fun h=>⟨h,by rw[oE hi];exact h,by rw[oE hi];exact h,i+1,by omega,by omega,by rw[u5 h,aH h hm]⟩,fun h=>by rw[u4 h]⟩
def zW:List Nat:=[0,2,1,3]
def GP:Sl:=ae Go.Proofs.Tryz.types Go.Proofs.Tryz.f75 zW []
theorem Ov:aD Go.Proofs.Tryz.prog Go.Proofs.Tryz.f75 zW GP 1=true:=by decide +kernel
theorem Rr(a:Pth)(hs:Pth.cost a<=1048576):al Go.Proofs.Tryz.prog 75 [.v (Pth.d a)] (Pth.d a):=by
 have hs2:=hs;unfold Pth.cost at hs2;refine aA Go.Proofs.Tryz.func75 Ov ?_;unfold GP ae zW;simp only[go_sem];refine ak (tA a.ed (by omega)) rfl (.inl (bL _)) ?_;simp only[go_sem]
 all_goals rfl
def zX:List Nat:=[0,2,3,4]
def GQ:Sl:=ae Go.Proofs.Tryz.types Go.Proofs.Tryz.f30 zX []
theorem Ow:aD Go.Proofs.Tryz.prog Go.Proofs.Tryz.f30 zX GQ 1=true:=by decide +kernel
theorem xJ(a:List (Pth))(hs:cN Pth.cost a<=1048576):al Go.Proofs.Tryz.prog 30 [.v (U Pth.d Pth.zero a)] (U Pth.d Pth.zero a):=by
 have hm:a.length<=maxLen:=by unfold cN at hs;simp only[maxLen];omega
 refine aA Go.Proofs.Tryz.func30 Ow ?_;unfold GQ ae zX;simp only[go_sem];refine⟨by unfold cN at hs;omega,?_⟩;refine aI [] (fun(i:Nat)=>[(2,.o (U Pth.d Pth.zero (dM a Pth.zero i))),(3,.int .i64 i)]) (fun i=>i<=a.length) (fun i=>a.length-i) 0 rfl (Nat.zero_le _) ?_ ?_
 ·simp only[go_sem,u6];rfl
 rintro i hi;simp only[go_sem];refine⟨fun h=>⟨h,ak (Rr (a.getD i Pth.zero) (Nat.le_trans (uZ (cost:=Pth.cost) h _) hs)) rfl (.inl (ph _)) ?_⟩,fun h=>by rw[u4 h]⟩;simp only[go_sem];exact⟨by rw[oE hi];exact h,by rw[oE hi];exact h,i+1,by omega,by omega,by rw[u5 h,aH h hm]⟩
def zY:List Nat:=[0,2,1,3]
def GR:Sl:=ae Go.Proofs.Tryz.types Go.Proofs.Tryz.f28 zY []
theorem Ox:aD Go.Proofs.Tryz.prog Go.Proofs.Tryz.f28 zY GR 1=true:=by decide +kernel
theorem Fc(a:Sch)(hs:Sch.cost a<=1048576):al Go.Proofs.Tryz.prog 28 [.v (Sch.d a)] (Sch.d a):=by
 have hs2:=hs;unfold Sch.cost at hs2;refine aA Go.Proofs.Tryz.func28 Ox ?_;unfold GR ae zY;simp only[go_sem];refine ak (tA a.fr (by omega)) rfl (.inl (bL _)) ?_;simp only[go_sem];refine ak (tA a.to (by omega)) rfl (.inl (bL _)) ?_;simp only[go_sem];refine ak (xJ a.lf (by omega)) rfl (.inl ((jP ph) _)) ?_;simp only[go_sem];refine ak (xJ a.rt (by omega)) rfl (.inl ((jP ph) _)) ?_;simp only[go_sem]
 all_goals rfl
def zZ:List Nat:=[0,2,1,3]
def GS:Sl:=ae Go.Proofs.Tryz.types Go.Proofs.Tryz.f8 zZ []
theorem Oy:aD Go.Proofs.Tryz.prog Go.Proofs.Tryz.f8 zZ GS 1=true:=by decide +kernel
theorem tB(a:Smp)(hs:Smp.cost a<=1048576):al Go.Proofs.Tryz.prog 8 [.v (Smp.d a)] (Smp.d a):=by
 have hs2:=hs;unfold Smp.cost at hs2;refine aA Go.Proofs.Tryz.func8 Oy ?_;unfold GS ae zZ;simp only[go_sem];refine ak (Fc a.src (by omega)) rfl (.inl (DE _)) ?_;simp only[go_sem];refine ak (Fc a.aJ (by omega)) rfl (.inl (DE _)) ?_;simp only[go_sem];refine ak (tA a.bq (by omega)) rfl (.inl (bL _)) ?_;simp only[go_sem];refine ak (xJ a.bh (by omega)) rfl (.inl ((jP ph) _)) ?_;simp only[go_sem]
 all_goals rfl
def zA:List Nat:=[0,1,4,2,3]
def Gt:Sl:=ae Go.Proofs.Tryz.types Go.Proofs.Tryz.f78 zA []
theorem N5:aD Go.Proofs.Tryz.prog Go.Proofs.Tryz.f78 zA Gt 2=true:=by decide +kernel
theorem Rj(a:Pth):al Go.Proofs.Tryz.prog 78 [.v (Pth.d a),.v (Pth.d a)] (.bool true):=by
 refine aA Go.Proofs.Tryz.func78 N5 ?_;unfold Gt ae zA;simp only[go_sem];refine⟨fun h=>by simp at h,fun _=>?_⟩;refine ak (jT a.ed) rfl (.inl rfl) ?_;simp only[go_sem]
 all_goals trivial
def zB:List Nat:=[0,1,4,5]
def Gu:Sl:=ae Go.Proofs.Tryz.types Go.Proofs.Tryz.f36 zB []
theorem N6:aD Go.Proofs.Tryz.prog Go.Proofs.Tryz.f36 zB Gu 2=true:=by decide +kernel
theorem xG(a:List (Pth)):al Go.Proofs.Tryz.prog 36 [.v (U Pth.d Pth.zero a),.v (U Pth.d Pth.zero a)] (.bool true):=by
 refine eI fun hw=>?_
 simp only[c7,eL] at hw;have hm:=hw.1.1;refine aA Go.Proofs.Tryz.func36 N6 ?_;unfold Gu ae zB;simp only[go_sem];refine⟨fun h=>by simp at h,fun _=>?_⟩;refine aI [] (fun(i:Nat)=>[(3,.int .i64 i)]) (fun i=>i<=a.length) (fun i=>a.length-i) 0 rfl (Nat.zero_le _) rfl ?_;rintro i hi;simp only[go_sem];refine fun h=>⟨h,h,ak (Rj (a.getD i Pth.zero)) rfl (.inl rfl) ?_⟩
 simp only[go_sem];exact⟨i+1,by omega,by omega,by rw[aH h hm]⟩
def zC:List Nat:=[0,1,4,2,3]
def Gv:Sl:=ae Go.Proofs.Tryz.types Go.Proofs.Tryz.f35 zC []
theorem N7:aD Go.Proofs.Tryz.prog Go.Proofs.Tryz.f35 zC Gv 2=true:=by decide +kernel
theorem E6(a:Sch):al Go.Proofs.Tryz.prog 35 [.v (Sch.d a),.v (Sch.d a)] (.bool true):=by
 refine aA Go.Proofs.Tryz.func35 N7 ?_;unfold Gv ae zC;simp only[go_sem];refine⟨fun h=>by simp at h,fun _=>?_⟩;refine ak (jT a.fr) rfl (.inl rfl) ?_;simp only[go_sem];refine ak (jT a.to) rfl (.inl rfl) ?_;simp only[go_sem];refine ak (xG a.lf) rfl (.inl rfl) ?_;simp only[go_sem];refine ak (xG a.rt) rfl (.inl rfl) ?_;simp only[go_sem]
 all_goals trivial
def zD:List Nat:=[0,1,4,2,3]
def Gw:Sl:=ae Go.Proofs.Tryz.types Go.Proofs.Tryz.f11 zD []
theorem N8:aD Go.Proofs.Tryz.prog Go.Proofs.Tryz.f11 zD Gw 2=true:=by decide +kernel
theorem Rk(a:Smp):al Go.Proofs.Tryz.prog 11 [.v (Smp.d a),.v (Smp.d a)] (.bool true):=by
 refine aA Go.Proofs.Tryz.func11 N8 ?_;unfold Gw ae zD;simp only[go_sem];refine ak (E6 a.src) rfl (.inl rfl) ?_;simp only[go_sem];refine ak (E6 a.aJ) rfl (.inl rfl) ?_;simp only[go_sem];refine ak (jT a.bq) rfl (.inl rfl) ?_;simp only[go_sem];refine ak (xG a.bh) rfl (.inl rfl) ?_;simp only[go_sem]
 all_goals trivial
def zw:List Nat:=[0,1,4,2,3]
def Gm:Sl:=ae Go.Proofs.Tryz.types Go.Proofs.Tryz.f33 zw []
theorem N1:aD Go.Proofs.Tryz.prog Go.Proofs.Tryz.f33 zw Gm 2=true:=by decide +kernel
theorem E5(a:ai):al Go.Proofs.Tryz.prog 33 [.v (ai.d a),.v (ai.d a)] (.bool true):=by
 refine aA Go.Proofs.Tryz.func33 N1 ?_;unfold Gm ae zw;simp only[go_sem];refine⟨fun h=>by simp at h,fun _=>?_⟩;refine ak (jT a.fr) rfl (.inl rfl) ?_;simp only[go_sem];refine ak (jT a.to) rfl (.inl rfl) ?_;simp only[go_sem];refine ak (jT a.aL) rfl (.inl rfl) ?_;simp only[go_sem];refine ak (Ri a.co) rfl (.inl rfl) ?_;simp only[go_sem]
 all_goals trivial
def zx:List Nat:=[0,1,4,2,3]
def Gn:Sl:=ae Go.Proofs.Tryz.types Go.Proofs.Tryz.f10 zx []
theorem N2:aD Go.Proofs.Tryz.prog Go.Proofs.Tryz.f10 zx Gn 2=true:=by decide +kernel
theorem xF(a:a6):al Go.Proofs.Tryz.prog 10 [.v (a6.d a),.v (a6.d a)] (.bool true):=by
 refine aA Go.Proofs.Tryz.func10 N2 ?_;unfold Gn ae zx;simp only[go_sem];refine ak (E5 a.src) rfl (.inl rfl) ?_;simp only[go_sem];refine ak (E5 a.aJ) rfl (.inl rfl) ?_;simp only[go_sem];refine ak (jT a.ei) rfl (.inl rfl) ?_;simp only[go_sem];refine ak (jT a.cw) rfl (.inl rfl) ?_;simp only[go_sem]
 all_goals trivial
end Go.D3
namespace Go.D3
open Go
theorem xf{K:List Pth}:(U ep none (K.map some)).strip=U Pth.d Pth.zero K:=by
 rw[tU (g:=Pth.d) (e:=Pth.zero) (t:=fun o:Option Pth=>o.getD Pth.zero) rfl (fun x hx=>?_),List.map_map]
 ·congr 1
  exact List.map_id K
 ·obtain⟨p,_,rfl⟩:=List.mem_map.1 hx
  show D.agg [_,(match(ints p.ed).strip with | .agg l=>D.vw (.agg l) | d'=>d')]=_;rw[dj];rfl
theorem oc{l:List Pth}:(U Pth.d Pth.zero l).strip=U Pth.d Pth.zero l:=by
 have:=tU (f:=Pth.d) (d:=Pth.zero) (g:=Pth.d) (e:=Pth.zero) (t:=fun x=>x) rfl (l:=l) fun x _=>by
  show D.agg [_,(ints x.ed).strip]=_;rw[dj];rfl
 rwa [List.map_id'] at this
end Go.D3
namespace Go.D3
open Go
theorem PT{s:Sch}(h:s.ok=true):∃o,s.fv o:=by
 by_cases hf:s.fits
 ·have hf':=hf
  obtain⟨l,hn,hA,_⟩:=hf';obtain⟨ls,hL⟩:=Sch.cu.HG h hn hA;by_cases ha:s.all ls
  ·exact⟨_,.yes ls hf hL ha⟩
  ·exact⟨_,.iE ls hL ha⟩
 ·exact⟨_,.many hf⟩
theorem Ej{s:Sch}(h:s.ok=true){x:au}(hp:s.bn=some x):∃ls,s.cu ls/\s.all ls/\x=s.cM ls:=by
 have:s.fv s.bn:=Classical.epsilon_spec (PT h);rw[hp] at this;cases this with
 | yes ls _ hL ha=>exact⟨ls,hL,ha,rfl⟩
theorem l9{s:Sch}(h:s.ok=true){x:au}(hp:s.bn=some x):fL s x:=by
 obtain⟨ls,hL,ha,rfl⟩:=Ej h hp;have hg:=ha.2.2;unfold Sch.fx at hg;simp only[Bool.and_eq_true] at hg;exact yw h hL hg.1.1
theorem xe{s:Sch}(h:s.ok=true){x:au}(hp:s.bn=some x):(∀p∈x.ls,s.sp p)/\x.ls.length<=40:=by
 obtain⟨ls,hL,ha,rfl⟩:=Ej h hp;exact⟨hL.sp,ha.2.1⟩
theorem au.A7{s:Sch}{x:au}(hx:fL s x){p:Pth}{y:Int}(hp:s.aF p=some y):∀i,i<=p.ed.length->x.c.fr.getD (x.arr p i).toNat 0=p.st
 | 0,_=>by
  obtain⟨h1,_,_⟩:=bw.1 hp;have hi:=hx.sh.aL;have ho:=hx.ob;have hb:=hx.sh.ids p.st.toNat (by omega);simp only[ai.iY,Bool.and_eq_true,beq_iff_eq] at hb;show x.c.fr.getD (x.c.aL.getD p.st.toNat 0).toNat 0=_;rw[hb.1];omega
 | i+1,hi=>by
  have ih:=au.A7 hx hp i (by omega);obtain⟨h,m,h1,h2,h3,h4⟩:=au.ot hx hp i (by omega);have hm:=kf hp hi;rw[b9 (show i<p.ed.length by omega) 0] at hm;obtain⟨k,k1,k2,k3,k4⟩:=oS hm;obtain⟨a1,a2,a3,a4⟩:=hx.ar k k2;obtain⟨g,hg⟩:∃g:Nat,x.ed.getD k 0=g:=⟨(x.ed.getD k 0).toNat,by omega⟩;rw[hg,Int.toNat_natCast] at a3 a4
  have e:x.arr p (i+1)=x.c.bE h g:=by
   unfold au.arr at h1|-
   rw[b9 (show i<p.ed.length by omega) 0,List.foldl_append,h1];show x.c.bE h (x.ed.getD (p.ed.getD i 0).toNat 0)=_;rw[k1,Int.toNat_natCast,hg]
  have hc:=hx.sh.lA h2 (show g<x.c.fr.length by omega) (by rw[h4,a3];rw[k3] at h3;injection h3 with h3;exact h3.symm);rw[e,hc.2.2.1,<-ih,h1,Int.toNat_natCast]
theorem ai.Shape.ql{c:ai}(h:c.Shape):ai.cost c<=1048576:=by
 have h1:=h.fr;have h2:=h.to;have h3:=h.co;have h4:=h.toPre.iw
 have hr:cN List.length c.co<=40+40*40:=by
  unfold cN
  have:∀n,n<=c.co.length->((c.co.take n).map List.length).sum<=n*40:=fun n=>by
   induction n with
   | zero=>intro _;simp
   | succ n ih =>
    intro hn;have:=pP (cost:=List.length) (show n<c.co.length by omega) [];have hw:=h.row n (by omega);have:=ih (by omega);omega
  have:=this c.co.length (Nat.le_refl _);rw[List.take_length] at this;omega
 unfold ai.cost;omega
def Smp.gp(m:Smp)(e:Nat):Bool:=((m.bh.getD e Pth.zero).st == m.bq.getD (m.src.fr.getD e 0).toNat 0)&&(m.aJ.aF (m.bh.getD e Pth.zero) == some (m.bq.getD (m.src.to.getD e 0).toNat 0))
def Smp.okB(m:Smp):Bool:=m.src.ok&&m.aJ.ok&&((m.bq.length:Int) == m.src.nd)&&cL m.aJ.nd m.bq&&(m.bh.length == m.src.fr.length)&&ca m.bh.length m.gp
structure Smp.Ok(m:Smp):Prop where
 s:m.src.ok=true
 t:m.aJ.ok=true
 n:(m.bq.length:Int)=m.src.nd
 r:∀i,i<m.bq.length->0<=m.bq.getD i 0/\m.bq.getD i 0<m.aJ.nd
 e:m.bh.length=m.src.fr.length
 p:∀e,e<m.bh.length->(m.bh.getD e Pth.zero).st=m.bq.getD (m.src.fr.getD e 0).toNat 0/\m.aJ.aF (m.bh.getD e Pth.zero)=some (m.bq.getD (m.src.to.getD e 0).toNat 0)
theorem Smp.qM{m:Smp}(h:m.okB=true):m.Ok:=by
 simp only[Smp.okB,Bool.and_eq_true,beq_iff_eq,jw,Smp.gp] at h;obtain⟨⟨⟨⟨⟨h1,h2⟩,h3⟩,h4⟩,h5⟩,h6⟩:=h;exact⟨h1,h2,h3,fun i hi=>gw h4 hi,h5,h6⟩
def Smp.fb(m:Smp)(b:au)(p:Pth)(i:Nat):Int:=(p.ed.take i).foldl (fun h e=>b.c.bE h (b.arr (m.bh.getD e.toNat Pth.zero) (m.bh.getD e.toNat Pth.zero).ed.length)) (b.c.fQ (m.bq.getD p.st.toNat 0))
theorem Smp.vI{m:Smp}{b:au}{p:Pth}{i:Nat}(h:i<p.ed.length):m.fb b p (i+1)=b.c.bE (m.fb b p i) (b.arr (m.bh.getD (p.ed.getD i 0).toNat Pth.zero) (m.bh.getD (p.ed.getD i 0).toNat Pth.zero).ed.length):=by
 unfold Smp.fb;rw[b9 h 0,List.foldl_append];rfl
theorem Smp.vi{m:Smp}(hm:m.Ok){b:au}(hb:fL m.aJ b){p:Pth}{y:Int}(hp:m.src.aF p=some y){i:Nat}(hi:i<p.ed.length) :
  ∃k a:Nat,p.ed.getD i 0=k/\k<m.bh.length/\m.aJ.aF (m.bh.getD k Pth.zero)=some (m.bq.getD (m.src.to.getD k 0).toNat 0)/\b.arr (m.bh.getD k Pth.zero) (m.bh.getD k Pth.zero).ed.length=a/\a<b.c.fr.length /\
   b.c.fr.getD a 0=m.bq.getD (m.src.fr.getD k 0).toNat 0/\b.c.to.getD a 0=m.bq.getD (m.src.to.getD k 0).toNat 0/\bp m.src.fr m.src.to p.st (p.ed.take i)=some (m.src.fr.getD k 0)/\bp m.src.fr m.src.to p.st (p.ed.take (i+1))=some (m.src.to.getD k 0):=by
 have hmid:=kf hp (i:=i+1) hi;have hmid2:=hmid;rw[b9 hi 0] at hmid;obtain⟨k,k1,k2,k3,k4⟩:=oS hmid;have hke:k<m.bh.length:=by rw[hm.e];exact k2
 obtain⟨e1,e2⟩:=hm.p k hke;obtain⟨a,n,a1,a2,a3,a4⟩:=au.ot hb e2 _ (Nat.le_refl _);have hf:=au.A7 hb e2 _ (Nat.le_refl _);rw[a1,Int.toNat_natCast,e1] at hf;rw[List.take_length] at a3;have:=(bw.1 e2).2.2;rw[this] at a3;injection a3 with a3
 refine⟨k,a,k1,hke,e2,a1,a2,hf,by rw[a4,a3],k3,?_⟩;rw[hmid2,k4]
theorem Smp.vH{m:Smp}(hm:m.Ok){b:au}(hb:fL m.aJ b){p:Pth}{y:Int}(hp:m.src.aF p=some y):∀i,i<=p.ed.length ->
  ∃(h:Nat)(n:Int),m.fb b p i=h/\h<b.c.fr.length/\bp m.src.fr m.src.to p.st (p.ed.take i)=some n/\b.c.to.getD h 0=m.bq.getD n.toNat 0
 | 0,_=>by
  obtain⟨h1,_,_⟩:=bw.1 hp;have hn:=hm.n;have hr:=hm.r p.st.toNat (by omega);have hi:=hb.sh.aL;have ho:=hb.ob;have hid:=hb.sh.oU (x:=m.bq.getD p.st.toNat 0) hr.1 (by omega);have hbb:=hb.sh.ids (m.bq.getD p.st.toNat 0).toNat (by omega);simp only[ai.iY,Bool.and_eq_true,beq_iff_eq] at hbb;refine⟨(b.c.fQ (m.bq.getD p.st.toNat 0)).toNat,p.st,?_,by omega,rfl,?_⟩
  ·show b.c.fQ (m.bq.getD p.st.toNat 0)=_
   omega
  ·show b.c.to.getD (b.c.aL.getD (m.bq.getD p.st.toNat 0).toNat 0).toNat 0=_
   rw[hbb.2];omega
 | i+1,hi=>by
  obtain⟨h,n,h1,h2,h3,h4⟩:=Smp.vH hm hb hp i (by omega);obtain⟨k,a,k1,k2,_,a1,a2,a3,a4,f1,f2⟩:=Smp.vi hm hb hp (show i<p.ed.length by omega);rw[f1] at h3;injection h3 with h3
  have hc:=hb.sh.lA h2 a2 (by rw[h4,a3,h3]);refine⟨(b.c.bE h a).toNat,m.src.to.getD k 0,?_,by omega,f2,?_⟩
  ·rw[Smp.vI (by omega),k1,Int.toNat_natCast,a1,h1];omega
  ·rw[hc.2.2.2,a4]
def Smp.eX(m:Smp)(b:au):Bool:=ca m.src.lf.length fun i=>m.fb b (m.src.lf.getD i Pth.zero) (m.src.lf.getD i Pth.zero).ed.length == m.fb b (m.src.rt.getD i Pth.zero) (m.src.rt.getD i Pth.zero).ed.length
def Smp.cw(m:Smp)(b:au)(ls:List Pth):List Int:=ls.map fun p=>m.fb b p p.ed.length
noncomputable def Smp.gO(m:Smp):a6×Int :=
 if m.okB=true then
  match m.src.bn,m.aJ.bn with
  | some a,some b=>if m.eX b=true then(⟨a.c,b.c,m.bq,m.cw b a.ls⟩,0) else(a6.zero,5)
  | _,_=>(a6.zero,3)
 else(a6.zero,1)
end Go.D3
