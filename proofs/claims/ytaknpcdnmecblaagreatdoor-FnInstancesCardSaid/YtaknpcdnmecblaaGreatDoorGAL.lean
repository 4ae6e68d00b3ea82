/- PLAIN LAWS: rows of paths without marks. -/
import Derived.Test.YtaknpcdnmecblaaGreatDoorGAK
import Derived.Test.YtaknpcdnmecblaaGreatDoorHG
namespace Go.D3
open Go Proofs
set_option maxHeartbeats 4000000
set_option maxRecDepth 100000
structure qP(s:aa)(x:aW):Prop where
 sh:x.c.Shape
 ob:x.c.ob=s.nd
 ed:x.ed.length=s.fr.length
 ar:∀k,k<s.fr.length->0<=x.ed.getD k 0/\x.ed.getD k 0<x.c.fr.length/\x.c.fr.getD (x.ed.getD k 0).toNat 0=s.fr.getD k 0/\x.c.to.getD (x.ed.getD k 0).toNat 0=s.to.getD k 0
def aW.dX(x:aW)(X:D):D:=.agg [.int .i64 x.c.ob,ints x.c.fr,ints x.c.to,ints x.c.an,aC x.c.co,X,ints x.ed]
def Ep(s:aa)(rc:D)(gs:List D):Prop:=gs=[]/\∃l,rc=.o (.av l)/\∃(x:aW)(M:List (Option U))(ok:Bool),l=[x.dX (ae eZ none M),.bool ok]/\(ok=true->M=x.ls.map some/\s.cn=some x)/\(ok=false->s.cn=none/\x=⟨af.zero,[],[]⟩/\M=[])
theorem W7{M:List (Option U)}{a:Int}{b:List Int}:(ae eZ none M).dh [.agg [.int .i64 a,.vw (ae (.int .i64) 0 b)]]=ae eZ none (M++[some ⟨a,b⟩]):=kO (f:=eZ) (x:=some ⟨a,b⟩)
theorem W9{L:List U}{d:U}:L.map some++[some d]=(L++[d]).map some:=by rw[List.map_append];rfl
theorem W8{d:U}:(eZ (some d)).cells=[.int .i64 d.st,.vw (ints d.ed)]:=rfl
attribute [go_sem] W7 W9 W8
theorem zb{s:aa}{x:Int}{l:List Int}{e y:Int}(h:bp s.fr s.to x (l++[e])=some y):∃k:Nat,e=k/\k<s.fr.length/\bp s.fr s.to x l=some (s.fr.getD k 0)/\y=s.to.getD k 0:=by
 rw[lU] at h;cases hf:bp s.fr s.to x l with
 | none=>rw[hf] at h;cases h
 | some z =>
  rw[hf,Option.bind_some,bp] at h;split at h
  ·rename_i I
   simp only[bq,Bool.and_eq_true,decide_eq_true_eq,beq_iff_eq] at I;injection h with h
   exact⟨e.toNat,by omega,by omega,by rw[I.2],h.symm⟩
  ·cases h
theorem aW.ye{s:aa}{x:aW}(I:qP s x){p:U}{y:Int}(hp:s.aO p=some y):∀i,i<=p.ed.length->∃(h:Nat)(m:Int),x.arr p i=h/\h<x.c.fr.length/\bp s.fr s.to p.st (p.ed.take i)=some m/\x.c.to.getD h 0=m
 | 0,_=>by
  obtain⟨h1,_,_⟩:=bN.1 hp;have hi:=I.sh.an;have ho:=I.ob;have hr:=I.sh.tt (x:=p.st) (by omega) (by omega);have V:=I.sh.ids p.st.toNat (by omega);simp only[af.jS,Bool.and_eq_true,beq_iff_eq] at V;have e:x.arr p 0=x.c.fG p.st:=rfl;rw[e];refine⟨(x.c.fG p.st).toNat,p.st,by omega,by omega,rfl,?_⟩;rw[show x.c.fG p.st=x.c.an.getD p.st.toNat 0 from rfl,V.2];omega
 | i+1,hi=>by
  obtain⟨h,m,h1,W,S,Y⟩:=aW.ye I hp i (by omega);have hm:=rm hp hi;rw[b7 (show i<p.ed.length by omega) 0] at hm;obtain⟨k,k1,k2,k3,k4⟩:=zb hm;obtain⟨a1,a2,a3,a4⟩:=I.ar k k2;obtain⟨g,hg⟩:∃g:Nat,x.ed.getD k 0=g:=⟨(x.ed.getD k 0).toNat,by omega⟩;rw[hg,Int.toNat_natCast] at a3 a4
  have e:x.arr p (i+1)=x.c.bH h g:=by
   unfold aW.arr at h1|-
   rw[b7 (show i<p.ed.length by omega) 0,List.foldl_append,h1];show x.c.bH h (x.ed.getD (p.ed.getD i 0).toNat 0)=_;rw[k1,Int.toNat_natCast,hg]
  have Z:=I.sh.mC W (show g<x.c.fr.length by omega) (by rw[Y,a3];rw[k3] at S;injection S with S;exact S.symm);refine⟨(x.c.bH h g).toNat,s.to.getD k 0,by rw[e];omega,by omega,?_,?_⟩
  ·rw[b7 (show i<p.ed.length by omega) 0,hm,k4]
  ·rw[Z.2.2.2,a4]
theorem AZ{s:aa}{x:aW}(I:qP s x){p:U}{y:Int}(hp:s.aO p=some y):aA Tryz.prog 109 [.v (aW.d x),.v (U.d p)] (.int .i64 (x.arr p p.ed.length)):=by
 obtain⟨h1,h2,_⟩:=bN.1 hp;have hi:=I.sh.an;have ho:=I.ob;have ab:=I.sh.co
 have he:∀i,i<p.ed.length->∃k:Nat,p.ed.getD i 0=k/\k<s.fr.length:=fun i hi=>by
  have hm:=rm hp (i:=i+1) hi;rw[b7 hi 0] at hm;obtain⟨k,S,V,_⟩:=zb hm;exact⟨k,S,V⟩
 refine Y7 x p (by omega) (fun i hi=>?_) (fun i hi=>?_) (by omega)
 ·obtain⟨k,S,V⟩:=he i hi
  have:=I.ed;omega
 ·obtain⟨k,S,V⟩:=he i hi
  obtain⟨W,a2,_⟩:=I.ar k V;obtain⟨h,m,Y,Z,_⟩:=aW.ye I hp i (by omega);have hr:=I.sh.row h Z;rw[Y,S,Int.toNat_natCast,Int.toNat_natCast];exact⟨by omega,W,by omega⟩
noncomputable def pK(s:aa)(ls:List U)(n:Nat):List Int:=(List.range n).map fun x:Nat=>s.no ls ⟨x,[]⟩
noncomputable def rk(s:aa)(ls:List U)(n:Nat):List Int:=(List.range n).map fun k:Nat=>s.no ls ⟨s.fr.getD k 0,[(k:Int)]⟩
noncomputable def nw(s:aa)(ls:List U)(f n:Nat):List Int:=(List.range n).map fun g:Nat=>s.cmp ls f g
noncomputable def yw(s:aa)(ls:List U)(n:Nat):List (List Int):=(List.range n).map fun f:Nat=>nw s ls f ls.length
theorem qo{α:Type}{f:Nat->α}{n:Nat}:(List.range (n+1)).map f=(List.range n).map f++[f n]:=by rw[List.range_succ,List.map_append];rfl
theorem qn{α:Type}{f:Nat->α}{n:Nat}:((List.range n).map f).length=n:=by simp
theorem Xe{α:Type}{f:Nat->α}{n k:Nat}{d:α}(h:k<n):((List.range n).map f).getD k d=f k:=by
 rw[aM (by simpa using h)];simp
theorem nb{α β:Type}{f:α->β}{l:List α}{k:Nat}{d:β}(e:α)(h:k<l.length):(l.map f).getD k d=f (l.getD k e):=by
 rw[aM (by simpa using h),aM h];simp
theorem rl{s:aa}{p:U}{y:Int}(h:s.aO p=some y):s.en p=y:=by unfold aa.en;rw[h];rfl
theorem BT{s:aa}(h:s.ok=true){ls:List U}(Y:s.cF ls)(S:(s.bu ls).c.cU=true):qP s (s.bu ls):=by
 have Z:=ic (eX h).1;simp only[af.cU,Bool.and_eq_true] at S;refine⟨af.dO.1 S.1,rfl,qn,fun k hk=>?_⟩;have I:=db Z.fr hk;have he:=pB (p:=⟨s.fr.getD k 0,[]⟩) (rn I.1 I.2) hk (show(0:Nat)<6 by decide);rw[List.nil_append] at he;obtain⟨m,m1,m2,m3⟩:=Y.wv ⟨_,he⟩;have V:=jN h m3
 have W:(s.bu ls).ed.getD k 0=m:=by
  rw[<-m1];exact Xe hk
 rw[W,Int.toNat_natCast];refine⟨by omega,?_,?_,?_⟩
 ·show(m:Int)<(ls.map U.st).length
  rw[List.length_map];omega
 ·show(ls.map U.st).getD m 0=_
  rw[nb U.zero m2,<-V.1]
 ·show(ls.map s.en).getD m 0=_
  rw[nb U.zero m2];exact rl (by rw[<-V.2.1];exact he)
theorem Zq{s:aa}{ls:List U}{f g:Nat}{y:Int}(I:s.aO (ls.getD f U.zero)=some y)(e:¬(ls.getD g U.zero).st=y):nw s ls f (g+1)=nw s ls f g++[-1]:=by
 unfold nw;rw[qo,aa.cmp,rl I,if_neg (Ne.symm e)]
theorem Zr{s:aa}{ls:List U}{f g:Nat}{y:Int}(I:s.aO (ls.getD f U.zero)=some y)(e:(ls.getD g U.zero).st=y):nw s ls f (g+1)=nw s ls f g++[(ls.getD g U.zero).ed.foldl (s.ju ls) (f:Int)]:=by
 unfold nw;rw[qo,aa.cmp,rl I,if_pos e.symm]
theorem some_get{α:Type}{L:List α}{i:Nat}{z:α}(h:i<L.length):(L.map some).getD i none=some (L.getD i z):=by
 rw[List.getD_eq_getElem?_getD,List.getElem?_map,List.getElem?_eq_getElem h,aM h];rfl
theorem vO{s:aa}{ls:List U}(I:s.cF ls)(h:¬s.fT (s.bu ls)=true):s.cn=none:=oH (.jY ls I fun S=>h S.2.2)
def E9:C := (.seq (.ops [3,1] [⟨none,.fP 5 (.v 0)⟩,⟨none,.fc [.int .i64 0,.aH (.int .i64 0),.aH (.int .i64 0),.aH (.int .i64 0),.aH (ints []),.aH (.agg [.int .i64 0,ints []]),.aH (.int .i64 0)]⟩,⟨none,.ch 2 (.k (.bool false))⟩] [(3,0),(1,1)]) (.seq (.u [.dz 5 (.v 3),.dyn (.k (.fn 104 [])) [(.t 0)],.n 1,.ext 0 (.t 2),.ext 1 (.t 2),.a 4 3,.a 5 4]) (.seq (.dJ [] (oL [.m 5,.not (.t 0)]) [] (.t 1) (.seq (.ops [] [⟨none,.iP [.int .i64 0,.aH (.int .i64 0),.aH (.int .i64 0),.aH (.int .i64 0),.aH (ints []),.aH (.agg [.int .i64 0,ints []]),.aH (.int .i64 0)] []⟩,⟨none,.eh 7 (.v 1) (.t 0)⟩,⟨none,.ch 2 (.k (.bool false))⟩] []) .ret) .skip) (.seq (.u [.m 4,.len (.t 0),.dz 5 (.v 3),.m 4,.dyn (.k (.fn 106 [])) [(.t 2),(.t 3)],.call 105 [(.t 1),(.t 4)],.a 6 5]) (.seq (.ops [7] [⟨none,.iP [.int .i64 0,.aH (.int .i64 0),.aH (.int .i64 0),.aH (.int .i64 0),.aH (ints []),.aH (.agg [.int .i64 0,ints []]),.aH (.int .i64 0)] []⟩,⟨none,.fc [.int .i64 0,.aH (.int .i64 0),.aH (.int .i64 0),.aH (.int .i64 0),.aH (ints []),.aH (.agg [.int .i64 0,ints []]),.aH (.int .i64 0)]⟩,⟨none,.eh 7 (.t 1) (.t 0)⟩] [(7,1)]) (.seq (.seq (.u [.ch 8 (.i 0)]) (.block 0 (.loop (.seq (.dJ [] (oL [.m 8,.m 4,.len (.t 1),.bin .lss (.t 0) (.t 2)]) [] (.t 3) .skip (.exit 0)) (.seq (.block 1 (.dJ [] (oL [.m 6,.m 8,.aB 1 (.t 0) (.t 1),.ld (.t 2),.fA 5 (.v 7),.ld (.t 4),.len (.t 5),.bin .eql (.t 3) (.t 6)]) [] (.t 7) (.seq (.dJ [] (oL [.m 4,.m 8,.aB 2 (.t 0) (.t 1),.fA 1 (.t 2),.ld (.t 3),.len (.t 4),.bin .eql (.t 5) (.i 6)]) [] (.t 6) (.seq (.ops [] [⟨none,.iP [.int .i64 0,.aH (.int .i64 0),.aH (.int .i64 0),.aH (.int .i64 0),.aH (ints []),.aH (.agg [.int .i64 0,ints []]),.aH (.int .i64 0)] []⟩,⟨none,.eh 7 (.v 1) (.t 0)⟩,⟨none,.ch 2 (.k (.bool false))⟩] []) .ret) .skip) (.u [.fA 5 (.v 7),.ld (.t 0),.m 4,.m 8,.aB 2 (.t 2) (.t 3),.dz 2 (.t 4),.aU (.agg [.int .i64 0,ints []]) 1 [(0,(.t 5))],.app 2 32 (.t 1) (.t 6),.fA 5 (.v 7),.st (.t 8) (.t 7)])) .skip)) (.u [.m 8,.bin .add (.t 0) (.i 1),.a 8 1])))))) (.seq (.dJ [] (oL [.fA 5 (.v 7),.ld (.t 0),.len (.t 1),.bin .gtr (.t 2) (.i 40)]) [] (.t 3) (.seq (.ops [] [⟨none,.iP [.int .i64 0,.aH (.int .i64 0),.aH (.int .i64 0),.aH (.int .i64 0),.aH (ints []),.aH (.agg [.int .i64 0,ints []]),.aH (.int .i64 0)] []⟩,⟨none,.eh 7 (.v 1) (.t 0)⟩,⟨none,.ch 2 (.k (.bool false))⟩] []) .ret) .skip) (.seq (.u [.fA 0 (.v 3),.ld (.t 0),.iP [.int .i64 0,.aH (.int .i64 0),.aH (.int .i64 0),.aH (.int .i64 0),.aH (ints [])] [(0,1,(.t 1))],.fA 0 (.v 7),.eh 5 (.t 3) (.t 2)]) (.seq (.seq (.u [.ch 9 (.i 0)]) (.block 2 (.loop (.seq (.dJ [] (oL [.m 9,.fA 0 (.v 3),.ld (.t 1),.bin .lss (.t 0) (.t 2)]) [] (.t 3) .skip (.exit 2)) (.seq (.block 3 (.u [.fA 0 (.v 7),.fA 3 (.t 0),.ld (.t 1),.m 6,.m 4,.m 9,.aU (.int .i64 0) 0 [],.call 107 [(.t 4),(.t 5),(.t 6)],.aB 1 (.t 3) (.t 7),.ld (.t 8),.aU (.int .i64 0) 1 [(0,(.t 9))],.app 1 8 (.t 2) (.t 10),.fA 0 (.v 7),.fA 3 (.t 12),.st (.t 13) (.t 11)])) (.u [.m 9,.bin .add (.t 0) (.i 1),.a 9 1])))))) (.seq (.seq (.u [.ch 10 (.i 0)]) (.block 4 (.loop (.seq (.dJ [] (oL [.m 10,.fA 1 (.v 3),.ld (.t 1),.len (.t 2),.bin .lss (.t 0) (.t 3)]) [] (.t 4) .skip (.exit 4)) (.seq (.block 5 (.u [.fA 6 (.v 7),.ld (.t 0),.m 6,.m 4,.fA 1 (.v 3),.ld (.t 4),.m 10,.aB 1 (.t 5) (.t 6),.ld (.t 7),.m 10,.aU (.int .i64 0) 1 [(0,(.t 9))],.call 107 [(.t 3),(.t 8),(.t 10)],.aB 1 (.t 2) (.t 11),.ld (.t 12),.aU (.int .i64 0) 1 [(0,(.t 13))],.app 1 8 (.t 1) (.t 14),.fA 6 (.v 7),.st (.t 16) (.t 15)])) (.u [.m 10,.bin .add (.t 0) (.i 1),.a 10 1])))))) (.seq (.seq (.u [.ch 11 (.i 0)]) (.block 6 (.loop (.seq (.dJ [] (oL [.m 11,.fA 5 (.v 7),.ld (.t 1),.len (.t 2),.bin .lss (.t 0) (.t 3)]) [] (.t 4) .skip (.exit 6)) (.seq (.block 7 (.seq (.u [.fA 0 (.v 7),.fA 1 (.t 0),.ld (.t 1),.fA 5 (.v 7),.ld (.t 3),.m 11,.aB 2 (.t 4) (.t 5),.fA 0 (.t 6),.ld (.t 7),.aU (.int .i64 0) 1 [(0,(.t 8))],.app 1 8 (.t 2) (.t 9),.fA 0 (.v 7),.fA 1 (.t 11),.st (.t 12) (.t 10)]) (.seq (.u [.fA 0 (.v 7),.fA 2 (.t 0),.ld (.t 1),.dz 5 (.v 3),.fA 5 (.v 7),.ld (.t 4),.m 11,.aB 2 (.t 5) (.t 6),.dz 2 (.t 7),.call 103 [(.t 3),(.t 8)],.aU (.int .i64 0) 1 [(0,(.t 9))],.app 1 8 (.t 2) (.t 10),.fA 0 (.v 7),.fA 2 (.t 12),.st (.t 13) (.t 11)]) (.seq (.u [.aU (.int .i64 0) 0 [],.a 12 0]) (.seq (.seq (.u [.ch 13 (.i 0)]) (.block 8 (.loop (.seq (.dJ [] (oL [.m 13,.fA 5 (.v 7),.ld (.t 1),.len (.t 2),.bin .lss (.t 0) (.t 3)]) [] (.t 4) .skip (.exit 8)) (.seq (.block 9 (.seq (.u [.ch 14 (.i (-1))]) (.seq (.dJ [] (oL [.fA 5 (.v 7),.ld (.t 0),.m 13,.aB 2 (.t 1) (.t 2),.fA 0 (.t 3),.ld (.t 4),.dz 5 (.v 3),.fA 5 (.v 7),.ld (.t 7),.m 11,.aB 2 (.t 8) (.t 9),.dz 2 (.t 10),.call 103 [(.t 6),(.t 11)],.bin .eql (.t 5) (.t 12)]) [] (.t 13) (.seq (.u [.m 11,.a 14 0]) (.seq (.u [.ch 15 (.i 0)]) (.block 10 (.loop (.seq (.dJ [] (oL [.m 15,.fA 5 (.v 7),.ld (.t 1),.m 13,.aB 2 (.t 2) (.t 3),.fA 1 (.t 4),.ld (.t 5),.len (.t 6),.bin .lss (.t 0) (.t 7)]) [] (.t 8) .skip (.exit 10)) (.seq (.block 11 (.alt [] (.two 7 25 [0,1,2,3,4,5,6,8,9,10,11,12,13,14,15,16,17,18,19,20,21,22,23,24,25,7,26,27,28,29] (.leaf (oL [.m 6,.m 4,.fA 5 (.v 7),.fA 5 (.v 7),.fA 5 (.v 7),.m 13,.m 15,.ld (.t 2),.m 14,.aB 2 (.t 7) (.t 8),.fA 0 (.t 9),.ld (.t 10),.ld (.t 3),.m 14,.aB 2 (.t 12) (.t 13),.fA 1 (.t 14),.ld (.t 15),.call 88 [(.t 16)],.ld (.t 4),.aB 2 (.t 18) (.t 5),.fA 1 (.t 19),.ld (.t 20),.aB 1 (.t 21) (.t 6),.ld (.t 22),.aU (.int .i64 0) 1 [(0,(.t 23))],.app 1 8 (.t 17) (.t 24),.call 107 [(.t 1),(.t 11),(.t 25)],.aB 1 (.t 0) (.t 26),.ld (.t 27),.a 14 28]) []) (.two 6 24 [0,1,2,3,4,5,7,8,9,10,11,12,13,14,15,16,17,18,19,20,21,22,23,24,6,25,26,27,28,29] (.leaf (oL [.m 6,.m 4,.fA 5 (.v 7),.fA 5 (.v 7),.fA 5 (.v 7),.m 13,.m 15,.ld (.t 2),.m 14,.aB 2 (.t 7) (.t 8),.fA 0 (.t 9),.ld (.t 3),.m 14,.aB 2 (.t 11) (.t 12),.fA 1 (.t 13),.ld (.t 14),.call 88 [(.t 15)],.ld (.t 4),.aB 2 (.t 17) (.t 5),.fA 1 (.t 18),.ld (.t 19),.aB 1 (.t 20) (.t 6),.ld (.t 21),.aU (.int .i64 0) 1 [(0,(.t 22))],.app 1 8 (.t 16) (.t 23),.ld (.t 10),.call 107 [(.t 1),(.t 25),(.t 24)],.aB 1 (.t 0) (.t 26),.ld (.t 27),.a 14 28]) []) (.two 5 23 [0,1,2,3,4,6,7,8,9,10,11,12,13,14,15,16,17,18,19,20,21,22,23,5,24,25,26,27,28,29] (.leaf (oL [.m 6,.m 4,.fA 5 (.v 7),.fA 5 (.v 7),.fA 5 (.v 7),.m 13,.m 15,.ld (.t 2),.m 14,.aB 2 (.t 7) (.t 8),.ld (.t 3),.m 14,.aB 2 (.t 10) (.t 11),.fA 1 (.t 12),.ld (.t 13),.call 88 [(.t 14)],.ld (.t 4),.aB 2 (.t 16) (.t 5),.fA 1 (.t 17),.ld (.t 18),.aB 1 (.t 19) (.t 6),.ld (.t 20),.aU (.int .i64 0) 1 [(0,(.t 21))],.app 1 8 (.t 15) (.t 22),.fA 0 (.t 9),.ld (.t 24),.call 107 [(.t 1),(.t 25),(.t 23)],.aB 1 (.t 0) (.t 26),.ld (.t 27),.a 14 28]) []) (.two 4 22 [0,1,2,3,5,6,7,8,9,10,11,12,13,14,15,16,17,18,19,20,21,22,4,23,24,25,26,27,28,29] (.two 3 22 [0,1,2,4,5,6,7,8,9,10,11,12,13,14,15,16,17,18,19,20,21,22,3,23,24,25,26,27,28,29] (.leaf (oL [.m 6,.m 4,.fA 5 (.v 7),.fA 5 (.v 7),.fA 5 (.v 7),.m 13,.m 15,.ld (.t 2),.m 14,.ld (.t 3),.m 14,.aB 2 (.t 9) (.t 10),.fA 1 (.t 11),.ld (.t 12),.call 88 [(.t 13)],.ld (.t 4),.aB 2 (.t 15) (.t 5),.fA 1 (.t 16),.ld (.t 17),.aB 1 (.t 18) (.t 6),.ld (.t 19),.aU (.int .i64 0) 1 [(0,(.t 20))],.app 1 8 (.t 14) (.t 21),.aB 2 (.t 7) (.t 8),.fA 0 (.t 23),.ld (.t 24),.call 107 [(.t 1),(.t 25),(.t 22)],.aB 1 (.t 0) (.t 26),.ld (.t 27),.a 14 28]) []) (.leaf (oL [.m 6,.m 4,.fA 5 (.v 7),.fA 5 (.v 7),.fA 5 (.v 7),.m 13,.m 15,.m 14,.ld (.t 3),.m 14,.aB 2 (.t 8) (.t 9),.fA 1 (.t 10),.ld (.t 11),.call 88 [(.t 12)],.ld (.t 4),.aB 2 (.t 14) (.t 5),.fA 1 (.t 15),.ld (.t 16),.aB 1 (.t 17) (.t 6),.ld (.t 18),.aU (.int .i64 0) 1 [(0,(.t 19))],.app 1 8 (.t 13) (.t 20),.ld (.t 2),.aB 2 (.t 22) (.t 7),.fA 0 (.t 23),.ld (.t 24),.call 107 [(.t 1),(.t 25),(.t 21)],.aB 1 (.t 0) (.t 26),.ld (.t 27),.a 14 28]) [])) (.two 3 21 [0,1,2,4,5,6,7,8,9,10,11,12,13,14,15,16,17,18,19,20,21,3,22,23,24,25,26,27,28,29] (.leaf (oL [.m 6,.m 4,.fA 5 (.v 7),.fA 5 (.v 7),.fA 5 (.v 7),.m 13,.m 15,.ld (.t 2),.ld (.t 3),.m 14,.aB 2 (.t 8) (.t 9),.fA 1 (.t 10),.ld (.t 11),.call 88 [(.t 12)],.ld (.t 4),.aB 2 (.t 14) (.t 5),.fA 1 (.t 15),.ld (.t 16),.aB 1 (.t 17) (.t 6),.ld (.t 18),.aU (.int .i64 0) 1 [(0,(.t 19))],.app 1 8 (.t 13) (.t 20),.m 14,.aB 2 (.t 7) (.t 22),.fA 0 (.t 23),.ld (.t 24),.call 107 [(.t 1),(.t 25),(.t 21)],.aB 1 (.t 0) (.t 26),.ld (.t 27),.a 14 28]) []) (.leaf (oL [.m 6,.m 4,.fA 5 (.v 7),.fA 5 (.v 7),.fA 5 (.v 7),.m 13,.m 15,.ld (.t 3),.m 14,.aB 2 (.t 7) (.t 8),.fA 1 (.t 9),.ld (.t 10),.call 88 [(.t 11)],.ld (.t 4),.aB 2 (.t 13) (.t 5),.fA 1 (.t 14),.ld (.t 15),.aB 1 (.t 16) (.t 6),.ld (.t 17),.aU (.int .i64 0) 1 [(0,(.t 18))],.app 1 8 (.t 12) (.t 19),.ld (.t 2),.m 14,.aB 2 (.t 21) (.t 22),.fA 0 (.t 23),.ld (.t 24),.call 107 [(.t 1),(.t 25),(.t 20)],.aB 1 (.t 0) (.t 26),.ld (.t 27),.a 14 28]) [])))))))) (.u [.m 15,.bin .add (.t 0) (.i 1),.a 15 1]))))))) .skip) (.u [.m 12,.m 14,.aU (.int .i64 0) 1 [(0,(.t 1))],.app 1 8 (.t 0) (.t 2),.a 12 3])))) (.u [.m 13,.bin .add (.t 0) (.i 1),.a 13 1])))))) (.u [.fA 0 (.v 7),.fA 4 (.t 0),.ld (.t 1),.m 12,.aU (ints []) 1 [(0,(.t 3))],.app 1 24 (.t 2) (.t 4),.fA 0 (.v 7),.fA 4 (.t 6),.st (.t 7) (.t 5)])))))) (.u [.m 11,.bin .add (.t 0) (.i 1),.a 11 1])))))) (.seq (.dJ [] (oL [.fA 0 (.v 7),.dz 5 (.t 0),.call 108 [(.t 1)],.not (.t 2)]) [] (.t 3) (.seq (.ops [] [⟨none,.iP [.int .i64 0,.aH (.int .i64 0),.aH (.int .i64 0),.aH (.int .i64 0),.aH (ints []),.aH (.agg [.int .i64 0,ints []]),.aH (.int .i64 0)] []⟩,⟨none,.eh 7 (.v 1) (.t 0)⟩,⟨none,.ch 2 (.k (.bool false))⟩] []) .ret) .skip) (.seq (.seq (.u [.ch 16 (.i 0)]) (.block 12 (.loop (.seq (.dJ [] (oL [.m 16,.fA 5 (.v 7),.ld (.t 1),.len (.t 2),.bin .lss (.t 0) (.t 3)]) [] (.t 4) .skip (.exit 12)) (.seq (.block 13 (.dJ [] (oL [.dz 7 (.v 7),.fA 5 (.v 7),.ld (.t 1),.m 16,.aB 2 (.t 2) (.t 3),.dz 2 (.t 4),.call 109 [(.t 0),(.t 5)],.m 16,.bin .neq (.t 6) (.t 7)]) [] (.t 8) (.seq (.ops [] [⟨none,.iP [.int .i64 0,.aH (.int .i64 0),.aH (.int .i64 0),.aH (.int .i64 0),.aH (ints []),.aH (.agg [.int .i64 0,ints []]),.aH (.int .i64 0)] []⟩,⟨none,.eh 7 (.v 1) (.t 0)⟩,⟨none,.ch 2 (.k (.bool false))⟩] []) .ret) .skip)) (.u [.m 16,.bin .add (.t 0) (.i 1),.a 16 1])))))) (.seq (.seq (.u [.ch 17 (.i 0)]) (.block 14 (.loop (.seq (.dJ [] (oL [.m 17,.fA 3 (.v 3),.ld (.t 1),.len (.t 2),.bin .lss (.t 0) (.t 3)]) [] (.t 4) .skip (.exit 14)) (.seq (.block 15 (.dJ [] (oL [.dz 7 (.v 7),.fA 3 (.v 3),.ld (.t 1),.m 17,.aB 2 (.t 2) (.t 3),.dz 2 (.t 4),.call 109 [(.t 0),(.t 5)],.dz 7 (.v 7),.fA 4 (.v 3),.ld (.t 8),.m 17,.aB 2 (.t 9) (.t 10),.dz 2 (.t 11),.call 109 [(.t 7),(.t 12)],.bin .neq (.t 6) (.t 13)]) [] (.t 14) (.seq (.ops [] [⟨none,.iP [.int .i64 0,.aH (.int .i64 0),.aH (.int .i64 0),.aH (.int .i64 0),.aH (ints []),.aH (.agg [.int .i64 0,ints []]),.aH (.int .i64 0)] []⟩,⟨none,.eh 7 (.v 1) (.t 0)⟩,⟨none,.ch 2 (.k (.bool false))⟩] []) .ret) .skip)) (.u [.m 17,.bin .add (.t 0) (.i 1),.a 17 1])))))) (.seq (.u [.dz 7 (.v 7),.eh 7 (.v 1) (.t 0),.ch 2 (.k (.bool true))]) .ret)))))))))))))))
def Na:List Nat:=[0,2,3,1,4,5,6,7,8,9,10,11,12,13,14,15,16,17]
def JU:List RS:=[.c 1 7 true,.t 2]
theorem VM:mL Tryz.prog Tryz.f46 Na E9 1 JU=true:=by decide +kernel
theorem Zi(s:aa)(h:s.ok=true):bn Tryz.prog 46 [aa.d s] [] (Ep s):=by
 obtain⟨cv,e0,e1⟩:=eX h;have hs:=ic cv;have cm:=hs.to;have eT:=hs.f8;have h0:=hs.n0;have h8:=hs.n8;have no:s.cn=none->Ep s (.o (.av [.agg [.int .i64 0,ints [],ints [],ints [],aC [],ae U.d U.zero [],ints []],.bool false])) []:=fun hn=>⟨rfl,_,rfl,⟨af.zero,[],[]⟩,[],false,rfl,fun h=>by(cases h),fun _=>⟨hn,rfl,rfl⟩⟩
 refine A1 .tree Tryz.func46 rfl VM rfl ⟨by simp only[List.length_cons,List.length_nil];decide,by simp only[List.length_nil];decide⟩ rfl (by intro h;first | rfl | cases h) ?_;unfold E9 Na JU;simp only[go_sem];refine bj [] false (bn.view (Q:=fun l=>∃(o:List U)(ok:Bool),l=[ae U.d U.zero o,.bool ok]/\o.length<=500/\(ok=true->Eo s o)/\(ok=false->¬s.fits)) (Zh s hs)) ?_;rintro _ _ ⟨rfl,_,rfl,list,ok,rfl,hl,hA,dk⟩;refine⟨(by repeat(first | exact trivial | refine⟨(fun h=>by cases h),?_⟩)),(fun h=>by cases h),?_⟩;simp only[go_sem];refine⟨fun hk=>?_,fun hk=>?_⟩
 ·exact⟨_,_,no (oH (.many (dk (by simpa using hk)))),rfl,rfl,trivial⟩
 have hX:=hA (by simpa using hk);have hA:=hX.a;refine bj [] false (Ze s list h hA hl) ?_;rintro _ _ ⟨rfl,P,rfl,eB,hP⟩;refine⟨(by repeat(first | exact trivial | refine⟨(fun h=>by cases h),?_⟩)),(fun h=>by cases h),?_⟩;simp only[go_sem];refine aj (Y9 list.length P (by omega) (by omega) fun k hk=>(hP.ok h hA).pr.get hk) rfl (.inl (bJ _)) ?_;simp only[go_sem];have hC:=(hP.ok h hA).cls s6;have a1:=jb.Tx h hA hX.nd hP s6;generalize cT (bV (bk list.length) P)=cl at hC a1;have eF:=hC.len;refine au [] (fun(p:Nat×List U)=>[(7,.box [.int .i64 0,.o (ints []),.o (ints []),.o (ints []),.o (aC []),.o (ae eZ none (p.2.map some)),.o (ints [])]),(8,.int .i64 p.1)]) (fun p=>p.1<=list.length/\p.2.length<=p.1/\jC s list cl p.1 p.2/\gf s list cl p.1 p.2) (fun p=>list.length-p.1) (0,[]) (by simp only[go_sem];rfl) ⟨Nat.zero_le _,Nat.le_refl _,jC.zero,gf.zero⟩ rfl ?_;rintro⟨i,ls⟩ ⟨hi,cy,hL,hJ⟩;simp only at hi cy hL hJ;simp only[go_sem];refine⟨fun h1=>?_,fun h1=>?_⟩
 ·obtain⟨y,hy⟩:=hA.at' h1
  have h6:=(bN.1 hy).2.1;rw[List.length_map]
  refine⟨by omega,fun h2=>⟨h1,fun h3=>⟨_,_,no (oH (hJ.iD h hA hX.qI a1 h1 h2 (by omega))),rfl,rfl,trivial⟩,fun h3=>⟨h1,rfl,by omega,(i+1,ls++[list.getD i U.zero]),⟨h1,by simp only[List.length_append,List.length_singleton];omega,hL.new h1 h2 (by
   have h3:(list.getD i U.zero).ed.length≠6:=fun e=>by rw[e] at h3;cases h3
   omega),hJ.new h1 h2⟩,by simp only;omega,by rw[aw h1 (by simp only[maxLen];omega)]⟩⟩,
   fun h2=>⟨(i+1,ls),⟨h1,by simp only;omega,hL.old hC h1 (by simpa using h2),hJ.old (fun m=>hC.f i m h1) (by simpa using h2)⟩,by simp only;omega,by rw[aw h1 (by simp only[maxLen];omega)]⟩⟩
 obtain rfl:i=list.length:=by omega
 have S:(ls.map some).length=ls.length:=List.length_map _;have a8:=fun {x ed y} hy=>gf.no h hA hX.qI a1 hJ (x:=x) (ed:=ed) (y:=y) hy
 have ag:=hJ.done h hA hX.qI a1
 have bF:∀i,i<list.length->(list.getD i U.zero).ed.length<=1048576:=fun i hi=>by
  obtain⟨y,hy⟩:=hA.at' hi;have:=(bN.1 hy).2.1;omega
 rw[List.length_map];refine⟨fun h2=>⟨_,_,no (oH (.jY ls ag fun ha=>by have:=ha.2.1;omega)),rfl,rfl,trivial⟩,fun et=>?_⟩;refine au [] (fun(p:Nat×List Int)=>[(7,.box [.int .i64 s.nd,.o (ints []),.o (ints []),.o (ints p.2),.o (aC []),.o (ae eZ none (ls.map some)),.o (ints [])]),(9,.int .i64 p.1)]) (fun p=>(p.1:Int)<=s.nd/\p.2=pK s ls p.1) (fun p=>s.nd.toNat-p.1) (0,[]) (by simp only[go_sem];rfl) ⟨h0,rfl⟩ rfl ?_;rintro⟨x,cP⟩ ⟨hx,ab⟩;simp only at hx ab;have ef:cP.length=x:=by rw[ab];exact qn
 simp only[go_sem];refine⟨fun h2=>?_,fun h2=>?_⟩
 ·refine aj (uB list x [] (by omega) bF) rfl (.inl rfl) ?_
  obtain⟨j,k,Y,cc,ax,_,cr,_⟩:=a8 (rn (s:=s) (x:=x) (by omega) h2);simp only[go_sem,Y];exact⟨by omega,by omega,(x+1,cP++[cl.getD j 0]),⟨by simp only;omega,by rw[ab,ax,<-cr];exact qo.symm⟩,by simp only;omega,by rw[aw (n:=9) (by omega) (by decide)]⟩
 obtain rfl:x=s.nd.toNat:=by omega
 refine au [] (fun(p:Nat×List Int)=>[(7,.box [.int .i64 s.nd,.o (ints []),.o (ints []),.o (ints cP),.o (aC []),.o (ae eZ none (ls.map some)),.o (ints p.2)]),(10,.int .i64 p.1)])
  (fun p=>p.1<=s.fr.length/\p.2=rk s ls p.1) (fun p=>s.fr.length-p.1) (0,[]) (by simp only[go_sem];rfl) ⟨Nat.zero_le _,rfl⟩ rfl ?_
 rintro⟨k,ed⟩ ⟨hk,a6⟩;simp only at hk a6;have eb:ed.length=k:=by rw[a6];exact qn
 simp only[go_sem];refine⟨fun h3=>?_,fun h3=>?_⟩
 ·have b4:=db hs.fr h3
  refine⟨h3,aj (uB list (s.fr.getD k 0) [(k:Int)] (by omega) bF) rfl (.inl rfl) ?_⟩;obtain⟨j,m,Y,cc,ax,cd,cg,_⟩:=a8 (pB (p:=⟨s.fr.getD k 0,[]⟩) (rn b4.1 b4.2) h3 (show(0:Nat)<6 by decide));rw[List.nil_append] at Y;simp only[go_sem,Y];exact⟨by omega,by omega,(k+1,ed++[(m:Int)]),⟨h3,by rw[a6,<-cg];exact qo.symm⟩,by simp only;omega,by rw[aw h3 (by simp only[maxLen];omega),ax]⟩
 obtain rfl:k=s.fr.length:=by omega
 refine au [12,13,14,15] (fun(p:Nat×List Int×List Int×List (List Int))=>[(7,.box [.int .i64 s.nd,.o (ints p.2.1),.o (ints p.2.2.1),.o (ints cP),.o (aC p.2.2.2),.o (ae eZ none (ls.map some)),.o (ints ed)]),(11,.int .i64 p.1)])
  (fun p=>p.1<=ls.length/\p.2.1=(ls.take p.1).map U.st/\p.2.2.1=(ls.take p.1).map s.en/\p.2.2.2=yw s ls p.1) (fun p=>ls.length-p.1) (0,[],[],[]) (by simp only[go_sem];rfl) ⟨Nat.zero_le _,rfl,rfl,rfl⟩ rfl ?_
 rintro⟨f,ad,bQ,eu⟩ ⟨hf,V,W,Z⟩;simp only at hf V W Z;have ec:ad.length=f:=by rw[V,List.length_map,List.length_take];omega
 have ej:bQ.length=f:=by rw[W,List.length_map,List.length_take];omega
 have ea:eu.length=f:=by rw[Z];exact qn
 by_cases h4:f<ls.length
 ·have hg:=some_get (z:=U.zero) h4
  have he:∃y,s.aO (ls.getD f U.zero)=some y:=by
   obtain⟨j,_,hj,_,e⟩:=hL.ex f h4;rw[e];exact hA.at' hj
  obtain⟨y,hy⟩:=he;simp only[go_sem,hg,S,h4,forall_const,not_true_eq_false];refine⟨by decide,by omega,⟨by decide,by decide⟩,aj (qw s (ls.getD f U.zero) y cm hy) rfl (.inl rfl) ?_⟩;simp only[go_sem];refine⟨by omega,?_⟩;refine au [14,15] (fun(p:Nat×List Int)=>[(12,.o (ints p.2)),(13,.int .i64 p.1)]) (fun p=>p.1<=ls.length/\p.2=nw s ls f p.1) (fun p=>ls.length-p.1) (0,[]) (by simp only[go_sem];rfl) ⟨Nat.zero_le _,rfl⟩ rfl ?_;rintro⟨g,row⟩ ⟨cq,I⟩;simp only at cq I;have eg:row.length=g:=by rw[I];exact qn
  by_cases h5:g<ls.length
  ·have a7:=some_get (z:=U.zero) h5
   obtain⟨z,hz⟩:∃z,s.aO (ls.getD g U.zero)=some z:=by
    obtain⟨j,_,hj,_,e⟩:=hL.ex g h5;rw[e];exact hA.at' hj
   simp only[go_sem,hg,a7,S,h4,h5,forall_const,not_true_eq_false];refine⟨by decide,⟨by decide,by decide⟩,aj (qw s (ls.getD f U.zero) y cm hy) rfl (.inl rfl) ?_⟩;have cp:=aw h5 (show ls.length<=maxLen by simp only[maxLen];omega);simp only[go_sem];refine⟨fun e=>?_,fun e=>⟨by omega,(g+1,row++[-1]),⟨h5,by rw[I];exact(Zq hy (by simpa using e)).symm⟩,by simp only;omega,by rw[cp]⟩⟩;generalize hG:ls.getD g U.zero=G at hz e;have ev:=(bN.1 hz).2.1;refine au [] (fun(p:Nat×Nat)=>[(14,.int .i64 p.2),(15,.int .i64 p.1)]) (fun p=>p.1<=G.ed.length/\p.2<ls.length/\(p.2:Int)=(G.ed.take p.1).foldl (s.ju ls) (f:Int)/\∃u v,s.aO (ls.getD p.2 U.zero)=some u/\bp s.fr s.to u (G.ed.drop p.1)=some v) (fun p=>G.ed.length-p.1) (0,f) (by simp only[go_sem];rfl) ⟨Nat.zero_le _,h4,rfl,y,z,hy,by rw[<-e];exact(bN.1 hz).2.2⟩ rfl ?_;rintro⟨k,hh⟩ ⟨hk,ao,bg,u,v,hu,hv⟩;simp only at hk ao bg hu hv;have b5:=some_get (z:=U.zero) ao;by_cases h6:k<G.ed.length
   ·have hd:=vI (fr:=s.fr) (to:=s.to) (x:=u) h6
    rw[hv] at hd;split at hd
    ·rename_i hc
     simp only[bq,Bool.and_eq_true,decide_eq_true_eq,beq_iff_eq] at hc;obtain⟨k0,b1⟩:∃k0:Nat,G.ed.getD k 0=k0:=⟨(G.ed.getD k 0).toNat,by omega⟩;rw[b1,Int.toNat_natCast] at hc hd;have H6:=hL.iD hh ao;obtain⟨j,m,Y,cc,ax,cd,cj,cg,cI⟩:=a8 (pB (p:=ls.getD hh U.zero) (e:=k0) (by rw[hc.2];exact hu) (by omega) H6);rw[<-b1] at Y cj
     have b3:(m:Int)=(G.ed.take (k+1)).foldl (s.ju ls) (f:Int):=by
      rw[b7 h6 0,List.foldl_append,<-bg,<-cj];rfl
     have dn:=aw h6 (show G.ed.length<=maxLen by simp only[maxLen];omega);have dm:∃u v,s.aO (ls.getD m U.zero)=some u/\bp s.fr s.to u (G.ed.drop (k+1))=some v:=⟨_,v,cI,hd.symm⟩;simp only[go_sem,a7,hG,b5,S,h5,ao,h6,forall_const]
     with_reducible (repeat' apply And.intro)
     all_goals(first
      | decide
      | omega
      | (refine aj (eE (ls.getD hh U.zero).ed (by omega)) rfl (.inl (bJ _)) ?_
         simp only[go_sem,a7,hG,b5,S,h5,ao,h6]
         with_reducible (repeat' apply And.intro)
         all_goals(first
          | decide
          | omega
          | (refine aj (uB list _ _ (by omega) bF) rfl (.inl rfl) ?_
             simp only[go_sem,Y]
             exact⟨by omega,(k+1,m),⟨h6,cd,b3,dm⟩,by simp only;omega,by rw[dn,ax]⟩))))
    ·cases hd
   simp only[go_sem,a7,hG,S,h5,h6,forall_const,false_implies];exact⟨by decide,by omega,(g+1,row++[(hh:Int)]),⟨h5,by rw[I,bg,List.take_of_length_le (by omega),<-hG];exact(Zr hy (by rw[hG,e])).symm⟩,by simp only;omega,by rw[cp]⟩
  obtain rfl:g=ls.length:=by omega
  have bT:=aw h4 (show ls.length<=maxLen by simp only[maxLen];omega);simp only[go_sem,S,h5,forall_const,false_implies,not_true_eq_false,not_false_eq_true];refine⟨by omega,(f+1,ad++[(ls.getD f U.zero).st],bQ++[y],eu++[row]),⟨h4,?_,?_,?_⟩,by simp only;omega,by rw[bT]⟩
  ·rw[V,b7 h4 U.zero,List.map_append];rfl
  ·rw[W,b7 h4 U.zero,List.map_append,<-rl hy];rfl
  ·rw[Z,I];exact qo.symm
 obtain rfl:f=ls.length:=by omega
 simp only[go_sem,S,h4,forall_const,false_implies];rw[List.take_length] at V W;have hT:(⟨⟨s.nd,ad,bQ,cP,eu⟩,ls,ed⟩:aW)=s.bu ls:=by rw[V,W,ab,Z,a6];rfl
 have b0:(⟨s.nd,ad,bQ,cP,eu⟩:af)=(s.bu ls).c:=congrArg aW.c hT;refine aj (Bb ⟨s.nd,ad,bQ,cP,eu⟩) rfl (.inl rfl) ?_;simp only[go_sem];refine⟨fun hB=>⟨_,_,no (vO ag fun hg=>?_),rfl,rfl,trivial⟩,fun hB=>?_⟩
 ·unfold aa.fT at hg
  rw[b0] at hB;simp only[Bool.and_eq_true] at hg;rw[hg.1.1] at hB;cases hB
 have hB:(s.bu ls).c.cU=true:=by rw[b0] at hB;simpa using hB
 have hx:qP s ⟨⟨s.nd,ad,bQ,cP,eu⟩,ls,ed⟩:=by rw[hT];exact BT h ag hB
 have e2:(s.bu ls).ls=ls:=rfl;refine au [] (fun(f:Nat)=>[(16,.int .i64 f)]) (fun f=>f<=ls.length/\∀j,j<f->(s.bu ls).arr (ls.getD j U.zero) (ls.getD j U.zero).ed.length=j) (fun f=>ls.length-f) 0 (by simp only[go_sem];rfl) ⟨Nat.zero_le _,fun j hj=>absurd hj (Nat.not_lt_zero _)⟩ rfl ?_;rintro f ⟨eP,b2⟩;by_cases h7:f<ls.length
 ·have hg:=some_get (z:=U.zero) h7
  have bT:=aw h7 (show ls.length<=maxLen by simp only[maxLen];omega)
  obtain⟨y,hy⟩:∃y,s.aO (ls.getD f U.zero)=some y:=by
   obtain⟨j,_,hj,_,e⟩:=hL.ex f h7;rw[e];exact hA.at' hj
  simp only[go_sem,hg,S,h7,forall_const];refine⟨⟨by decide,by decide⟩,aj (AZ hx hy) rfl (.inl rfl) ?_⟩;rw[hT];simp only[go_sem];refine⟨fun hn=>⟨_,_,no (vO ag fun hg=>?_),rfl,rfl,trivial⟩,fun hn=>⟨f+1,⟨h7,fun j hj=>?_⟩,by omega,by rw[bT]⟩⟩
  ·unfold aa.fT at hg
   simp only[Bool.and_eq_true,jG,beq_iff_eq] at hg;rw[bne_iff_ne] at hn;exact hn (hg.1.2 f h7)
  ·by_cases hjf:j<f
   ·exact b2 j hjf
   ·obtain rfl:j=f:=by omega
    rwa [bne_eq_false_iff_eq] at hn
 obtain rfl:f=ls.length:=by omega
 simp only[go_sem,S,h7,forall_const,false_implies];refine au [] (fun(i:Nat)=>[(17,.int .i64 i)]) (fun i=>i<=s.lf.length/\∀j,j<i->(s.bu ls).arr (s.lf.getD j U.zero) (s.lf.getD j U.zero).ed.length=(s.bu ls).arr (s.rt.getD j U.zero) (s.rt.getD j U.zero).ed.length) (fun i=>s.lf.length-i) 0 (by simp only[go_sem];rfl) ⟨Nat.zero_le _,fun j hj=>absurd hj (Nat.not_lt_zero _)⟩ rfl ?_;rintro i ⟨hi,b9⟩;simp only[go_sem];refine⟨fun h8=>?_,fun h8=>⟨_,_,⟨rfl,_,rfl,s.bu ls,ls.map some,true,by rw[<-hT];rfl,fun _=>⟨rfl,oH (.yes ls ⟨list,hX.nd,hA,hX.len⟩ ag ⟨fun p hp=>?_,by omega,?_⟩)⟩,fun h=>by cases h⟩,rfl,rfl,trivial⟩⟩
 rotate_left
 ·obtain⟨k,hk,rfl⟩:=ff (d:=U.zero) hp
  exact hL.iD k hk
 ·unfold aa.fT
  simp only[Bool.and_eq_true,jG,beq_iff_eq];exact⟨⟨hB,fun j hj=>b2 j hj⟩,fun j hj=>b9 j (by omega)⟩
 obtain⟨z,hp,hq,aK⟩:=ok_eq h h8;refine⟨h8,aj (AZ hx hp) rfl (.inl rfl) ?_⟩;simp only[go_sem];refine⟨by omega,aj (AZ hx hq) rfl (.inl rfl) ?_⟩;rw[hT];simp only[go_sem];refine⟨fun hn=>⟨_,_,no (vO ag fun hg=>?_),rfl,rfl,trivial⟩,fun hn=>⟨i+1,⟨h8,fun j hj=>?_⟩,by omega,by rw[aw h8 (by simp only[maxLen];omega)]⟩⟩
 ·unfold aa.fT at hg
  simp only[Bool.and_eq_true,jG,beq_iff_eq] at hg;rw[bne_iff_ne] at hn;exact hn (hg.2 i h8)
 ·by_cases hji:j<i
  ·exact b9 j hji
  ·obtain rfl:j=i:=by omega
   rwa [bne_eq_false_iff_eq] at hn
end Go.D3
namespace Go.D3
open Go
theorem AN{K:List U}:(ae eZ none (K.map some)).strip=ae U.d U.zero K:=by
 rw[xq (g:=U.d) (e:=U.zero) (t:=fun o:Option U=>o.getD U.zero) rfl (fun x S=>?_),List.map_map]
 ·congr 1
  exact List.map_id K
 ·obtain⟨p,_,rfl⟩:=List.mem_map.1 S
  show D.agg [_,(match(ints p.ed).strip with | .agg l=>D.vw (.agg l) | I=>I)]=_;rw[dD];rfl
theorem o6{l:List U}:(ae U.d U.zero l).strip=ae U.d U.zero l:=by
 have:=xq (f:=U.d) (d:=U.zero) (g:=U.d) (e:=U.zero) (t:=fun x=>x) rfl (l:=l) fun x _=>by
  show D.agg [_,(ints x.ed).strip]=_;rw[dD];rfl
 rwa [List.map_id'] at this
end Go.D3
