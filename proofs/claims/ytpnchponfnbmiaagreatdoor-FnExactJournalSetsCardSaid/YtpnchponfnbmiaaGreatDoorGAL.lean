/- PLAIN LAWS: maps of schemas. -/
import Derived.Test.YtpnchponfnbmiaaGreatDoorGAG
import Derived.Test.YtpnchponfnbmiaaGreatDoorGAK
namespace Go.D3
open Go
theorem Wx{s:aa}(h:s.ok=true):∃o,s.gA o:=by
 by_cases hf:s.fits
 ·have hf':=hf
  obtain⟨l,hn,hA,_⟩:=hf';obtain⟨ls,hL⟩:=aa.cQ.Mu h hn hA;by_cases ha:s.all ls
  ·exact⟨_,.yes ls hf hL ha⟩
  ·exact⟨_,.iA ls hL ha⟩
 ·exact⟨_,.many hf⟩
theorem IQ{s:aa}(h:s.ok=true){x:bj}(hp:s.cO=some x):∃ls,s.cQ ls/\s.all ls/\x=s.cP ls:=by
 have:s.gA s.cO:=Classical.epsilon_spec (Wx h);rw[hp] at this;cases this with
 | yes ls _ hL ha=>exact⟨ls,hL,ha,rfl⟩
theorem Aq{s:aa}(h:s.ok=true){x:bj}(hp:s.cO=some x):qj s x:=by
 obtain⟨ls,hL,ha,rfl⟩:=IQ h hp;have hg:=ha.2.2;unfold aa.gC at hg;simp only[Bool.and_eq_true] at hg;exact BB h hL hg.1.1
theorem Ap{s:aa}(h:s.ok=true){x:bj}(hp:s.cO=some x):(∀p∈x.ls,s.sp p)/\x.ls.length<=40:=by
 obtain⟨ls,hL,ha,rfl⟩:=IQ h hp;exact⟨hL.sp,ha.2.1⟩
theorem au.Shape.yh{c:au}(h:c.Shape):au.cost c<=1048576:=by
 have h1:=h.fr;have h2:=h.to;have h3:=h.co;have h4:=h.toPre.jE
 have hr:dB List.length c.co<=40+40*40:=by
  unfold dB
  have:∀n,n<=c.co.length->((c.co.take n).map List.length).sum<=n*40:=fun n=>by
   induction n with
   | zero=>intro _;simp
   | succ n ih =>
    intro hn;have:=uc (cost:=List.length) (show n<c.co.length by omega) [];have hw:=h.row n (by omega);have:=ih (by omega);omega
  have:=this c.co.length (Nat.le_refl _);rw[List.take_length] at this;omega
 unfold au.cost;omega
def bR.Pr(m:bR)(e:Nat):Bool:=((m.ez.getD e U.zero).st == m.eh.getD (m.src.fr.getD e 0).toNat 0)&&(m.df.aO (m.ez.getD e U.zero) == some (m.eh.getD (m.src.to.getD e 0).toNat 0))
def bR.okB(m:bR):Bool:=m.src.ok&&m.df.ok&&((m.eh.length:Int) == m.src.nd)&&bQ m.df.nd m.eh&&(m.ez.length == m.src.fr.length)&&dI m.ez.length m.Pr
structure bR.Ok(m:bR):Prop where
 s:m.src.ok=true
 t:m.df.ok=true
 n:(m.eh.length:Int)=m.src.nd
 r:∀i,i<m.eh.length->0<=m.eh.getD i 0/\m.eh.getD i 0<m.df.nd
 e:m.ez.length=m.src.fr.length
 p:∀e,e<m.ez.length->(m.ez.getD e U.zero).st=m.eh.getD (m.src.fr.getD e 0).toNat 0/\m.df.aO (m.ez.getD e U.zero)=some (m.eh.getD (m.src.to.getD e 0).toNat 0)
def bR.P8(m:bR)(b:bj)(p:U)(i:Nat):Int:=(p.ed.take i).foldl (fun h e=>b.c.ck h (b.arr (m.ez.getD e.toNat U.zero) (m.ez.getD e.toNat U.zero).ed.length)) (b.c.iQ (m.eh.getD p.st.toNat 0))
def bR.iM(m:bR)(b:bj)(ls:List U):List Int:=ls.map fun p=>m.P8 b p p.ed.length
end Go.D3
