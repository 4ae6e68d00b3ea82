/- PLAIN LAWS: maps of schemas. -/
import Derived.Test.YtaknpcdnmecblaaGreatDoorGAL
import Derived.Test.YtaknpcdnmecblaaGreatDoorGAP
namespace Go.D3
open Go
theorem WX{s:aa}(h:s.ok=true):∃o,s.gK o:=by
 by_cases I:s.fits
 ·have S:=I
  obtain⟨l,W,hA,_⟩:=S;obtain⟨ls,V⟩:=aa.cF.ME h W hA;by_cases ha:s.all ls
  ·exact⟨_,.yes ls I V ha⟩
  ·exact⟨_,.jY ls V ha⟩
 ·exact⟨_,.many I⟩
theorem ur{s:aa}(h:s.ok=true){x:aW}(hp:s.cn=some x):∃ls,s.cF ls/\s.all ls/\x=s.bu ls:=by
 have:s.gK s.cn:=Classical.epsilon_spec (WX h);rw[hp] at this;cases this with
 | yes ls _ I S=>exact⟨ls,I,S,rfl⟩
theorem ql{s:aa}(h:s.ok=true){x:aW}(hp:s.cn=some x):qP s x:=by
 obtain⟨ls,I,S,rfl⟩:=ur h hp;have hg:=S.2.2;unfold aa.fT at hg;simp only[Bool.and_eq_true] at hg;exact BT h I hg.1.1
theorem AM{s:aa}(h:s.ok=true){x:aW}(hp:s.cn=some x):(∀p∈x.ls,s.sp p)/\x.ls.length<=40:=by
 obtain⟨ls,I,S,rfl⟩:=ur h hp;exact⟨I.sp,S.2.1⟩
theorem af.Shape.yx{c:af}(h:c.Shape):af.cost c<=1048576:=by
 have h1:=h.fr;have S:=h.to;have V:=h.co;have W:=h.toPre.cP
 have Z:da List.length c.co<=40+40*40:=by
  unfold da
  have:∀n,n<=c.co.length->((c.co.take n).map List.length).sum<=n*40:=fun n=>by
   induction n with
   | zero=>intro _;simp
   | succ n I =>
    intro Y;have:=MS (cost:=List.length) (show n<c.co.length by omega) [];have hw:=h.row n (by omega);have:=I (by omega);omega
  have:=this c.co.length (Nat.le_refl _);rw[List.take_length] at this;omega
 unfold af.cost;omega
def cD.PK(m:cD)(e:Nat):Bool:=((m.fD.getD e U.zero).st == m.fm.getD (m.src.fr.getD e 0).toNat 0)&&(m.fN.aO (m.fD.getD e U.zero) == some (m.fm.getD (m.src.to.getD e 0).toNat 0))
def cD.okB(m:cD):Bool:=m.src.ok&&m.fN.ok&&((m.fm.length:Int) == m.src.nd)&&bI m.fN.nd m.fm&&(m.fD.length == m.src.fr.length)&&cS m.fD.length m.PK
structure cD.Ok(m:cD):Prop where
 s:m.src.ok=true
 t:m.fN.ok=true
 n:(m.fm.length:Int)=m.src.nd
 r:∀i,i<m.fm.length->0<=m.fm.getD i 0/\m.fm.getD i 0<m.fN.nd
 e:m.fD.length=m.src.fr.length
 p:∀e,e<m.fD.length->(m.fD.getD e U.zero).st=m.fm.getD (m.src.fr.getD e 0).toNat 0/\m.fN.aO (m.fD.getD e U.zero)=some (m.fm.getD (m.src.to.getD e 0).toNat 0)
def cD.QH(m:cD)(b:aW)(p:U)(i:Nat):Int:=(p.ed.take i).foldl (fun h e=>b.c.bH h (b.arr (m.fD.getD e.toNat U.zero) (m.fD.getD e.toNat U.zero).ed.length)) (b.c.fG (m.fm.getD p.st.toNat 0))
def cD.lJ(m:cD)(b:aW)(ls:List U):List Int:=ls.map fun p=>m.QH b p p.ed.length
end Go.D3
