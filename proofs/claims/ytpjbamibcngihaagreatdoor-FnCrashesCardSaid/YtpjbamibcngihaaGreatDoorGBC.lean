/- PLAIN LAWS: journals that are drawn. -/
import Derived.Test.YtpjbamibcngihaaGreatDoorGBB
import Derived.Test.YtpjbamibcngihaaGreatDoorGAL
import Derived.Test.YtpjbamibcngihaaGreatDoorGBA
namespace Go.D3
open Go
theorem Qb{s:aa}(hs:cQ s):(bW s).dP s=true:=by
 have hd:=rh hs
 have hrow:s.gK (bW s).sz (bW s).mp=true:=by
  unfold aa.gK;simp only[Bool.and_eq_true,beq_iff_eq,List.all_eq_true,List.mem_range];refine⟨⟨⟨hd.nd,?_⟩,hd.mp⟩,fun e he=>?_⟩
  ·unfold bV bW
   rw[List.all_eq_true];intro x hx;rw[(List.mem_replicate.1 hx).2];rfl
  ·unfold aa.kn bW
   simp only[mO];rfl
 have hbr:s.fY (bW s).sz (bW s).mp s.lf.length=none:=by
  unfold aa.fY;rw[List.findSome?_eq_none_iff];intro i _;unfold bW o7;simp only[mO];rfl
 unfold af.dP;rw[hrow,hbr];rfl
theorem Fc{t:List UInt8}{p:aa×Hs}(h:bn t=some p):p.2.last.dP p.1=true:=by
 obtain⟨ho,hk⟩:=gJ h;have hc:=zj h;have hs:=eA (dM ho).1;have h2:=hc.dl;rcases Nat.eq_zero_or_pos p.2.tx.length with h1 | h1
 ·have h3:p.2.last=bW p.1:=by
   unfold Hs.last;rw[show p.2.dt.length-1=0 by omega];exact hc.d0
  rw[h3];exact Qb hs
 ·have h3:=hc.st (p.2.tx.length-1) (by omega)
  have h4:p.2.dt.getD (p.2.tx.length-1+1) af.zero=p.2.last:=by
   unfold Hs.last;rw[show p.2.dt.length-1=p.2.tx.length-1+1 by omega]
  rw[h4] at h3;exact(pq h3).2.2
theorem Ht{t:List UInt8}{p:aa×Hs}(h:bn t=some p):(cL t).map (·.1)=some p.1:=by
 unfold bn at h;rw[Option.map_eq_some_iff] at h;obtain⟨q,h1,rfl⟩:=h;rw[h1];rfl
theorem Wn{s:aa}{d:af}(hs:cQ s)(hd:br s d)(hn:d.nn):∀c∈db d,c.line.length<=72:=fun c hc=>by
 have hk:=zY hs hd hn c hc
 have h:(c.kd=1/\c.se=0/\c.th=0)\/c.kd=2:=by
  unfold db fJ gM fm at hc;rcases List.mem_append.1 hc with hc | hc
  ·obtain⟨x,-,hx⟩:=List.mem_flatMap.1 hc
   rw[(List.mem_replicate.1 hx).2];exact .inl ⟨rfl,rfl,rfl⟩
  ·obtain⟨x,-,hx⟩:=List.mem_flatMap.1 hc
   obtain⟨r,-,rfl⟩:=List.mem_map.1 hx;exact .inr rfl
 unfold lJ at hk;refine xO ?_;unfold ah.has;have hi:∀n:Int,0<=n->n<=1000000->IntKind.i64.has n:=fun n h0 h1=>⟨by simp[IntKind.min,IntKind.signed,IntKind.bits];omega,by simp[IntKind.max,IntKind.signed,IntKind.bits];omega⟩
 rcases h with⟨h1,h2,h3⟩ | h1
 ·rw[h1,h2,h3]
  exact⟨hi _ (by decide) (by decide),hi _ hk.1.1 hk.1.2,hi _ (by decide) (by decide),hi _ (by decide) (by decide)⟩
 ·obtain⟨h2,h3⟩:=hk.2 (by omega)
  rw[h1];exact⟨hi _ (by decide) (by decide),hi _ hk.1.1 hk.1.2,hi _ h2.1 h2.2,hi _ h3.1 h3.2⟩
theorem Mk{t:List UInt8}{p:aa×Hs}(h:bn t=some p):∃(u:List UInt8)(e:Int),jk (bn t)=.au [.str u,.int .i64 e]/\(e=0\/e=3)/\(e=0->u.length<=10000/\∃H,bn u=some (p.1,H)/\H.last=p.2.last/\H.tx.length<=1/\H.gd=u.length):=by
 obtain⟨ho,hk⟩:=gJ h;have hs:=eA (dM ho).1;have hl:=sd (cJ ho);have hnl:(cA p.1).length<=4000:=by simp only[cA,List.length_append,List.length_cons,List.length_nil];omega
 have h72:=xQ (Wn hs hk.last hk.tN);rw[h];unfold jk;dsimp only;split
 ·exact⟨[],3,rfl,.inr rfl,fun h=>by cases h⟩
 ·rename_i h40
  have hc:=Mn h (by omega);split
  ·rename_i h0
   exact⟨_,0,rfl,.inl rfl,fun _=>⟨by omega,_,hc.1 (List.eq_nil_of_length_eq_zero h0),rfl,Nat.zero_le _,rfl⟩⟩
  ·rename_i h0
   refine⟨_,0,rfl,.inl rfl,fun _=>⟨?_,_,hc.2 (fun hh=>h0 (by rw[hh];rfl)),rfl,Nat.le_refl _,rfl⟩⟩;have he:=MH (t:=cA p.1++bu (db p.2.last));unfold dE;simp only[List.length_append,List.length_cons,List.length_nil];omega
end Go.D3
namespace Go.D3
open Go
set_option maxRecDepth 100000
def Fa:List aa:=[⟨1,[0],[0],[⟨0,[0,0]⟩],[⟨0,[]⟩]⟩,⟨1,[0],[0],[⟨0,[0,0]⟩],[⟨0,[0]⟩]⟩,⟨2,[0],[1],[],[]⟩,⟨3,[0,1],[1,2],[],[]⟩,⟨3,[0,1,0],[1,2,2],[⟨0,[0,1]⟩],[⟨0,[2]⟩]⟩,⟨2,[0,1],[1,0],[⟨0,[0,1]⟩],[⟨0,[]⟩]⟩,⟨2,[0,1],[1,0],[⟨0,[0,1]⟩,⟨1,[1,0]⟩],[⟨0,[]⟩,⟨1,[]⟩]⟩,⟨2,[0,0],[1,1],[],[]⟩,⟨1,[0],[0],[⟨0,[0,0,0]⟩],[⟨0,[]⟩]⟩,⟨1,[0,0],[0,0],[⟨0,[0,0]⟩,⟨0,[1,1]⟩,⟨0,[0,1]⟩,⟨0,[1,0]⟩],[⟨0,[0]⟩,⟨0,[1]⟩,⟨0,[0]⟩,⟨0,[1]⟩]⟩,⟨2,[0,1],[1,1],[⟨1,[1,1]⟩],[⟨1,[1]⟩]⟩,⟨0,[],[],[],[]⟩,⟨2,[],[],[],[]⟩,⟨4,[0,0,1,2],[1,2,3,3],[⟨0,[0,2]⟩],[⟨0,[1,3]⟩]⟩,⟨1,[0],[0],[⟨0,[0,0,0,0]⟩],[⟨0,[0,0]⟩]⟩,⟨2,[0,0],[0,1],[⟨0,[0,0]⟩,⟨0,[0,1]⟩],[⟨0,[]⟩,⟨0,[1]⟩]⟩,⟨1,[0],[0],[],[]⟩,⟨2,[0,1],[1,0],[],[]⟩,⟨1,[0,0],[0,0],[⟨0,[0,1]⟩,⟨0,[0,0]⟩,⟨0,[1,1]⟩],[⟨0,[1,0]⟩,⟨0,[]⟩,⟨0,[]⟩]⟩,⟨3,[0,2],[1,1],[],[]⟩]
def mn:List (List UInt8):=[[49,32,124,32,48,62,48,32,124,32,64,48,97,97,61,64,48],[49,32,124,32,48,62,48,32,124,32,64,48,97,97,61,64,48,97],[50,32,124,32,48,62,49,32,124,32,45],[51,32,124,32,48,62,49,32,49,62,50,32,124,32,45],[51,32,124,32,48,62,49,32,49,62,50,32,48,62,50,32,124,32,64,48,97,98,61,64,48,99],[50,32,124,32,48,62,49,32,49,62,48,32,124,32,64,48,97,98,61,64,48],[50,32,124,32,48,62,49,32,49,62,48,32,124,32,64,48,97,98,61,64,48,32,64,49,98,97,61,64,49],[50,32,124,32,48,62,49,32,48,62,49,32,124,32,45],[49,32,124,32,48,62,48,32,124,32,64,48,97,97,97,61,64,48],[49,32,124,32,48,62,48,32,48,62,48,32,124,32,64,48,97,97,61,64,48,97,32,64,48,98,98,61,64,48,98,32,64,48,97,98,61,64,48,97,32,64,48,98,97,61,64,48,98],[50,32,124,32,48,62,49,32,49,62,49,32,124,32,64,49,98,98,61,64,49,98],[48,32,124,32,45,32,124,32,45],[50,32,124,32,45,32,124,32,45],[52,32,124,32,48,62,49,32,48,62,50,32,49,62,51,32,50,62,51,32,124,32,64,48,97,99,61,64,48,98,100],[49,32,124,32,48,62,48,32,124,32,64,48,97,97,97,97,61,64,48,97,97],[50,32,124,32,48,62,48,32,48,62,49,32,124,32,64,48,97,97,61,64,48,32,64,48,97,98,61,64,48,98],[49,32,124,32,48,62,48,32,124,32,45],[50,32,124,32,48,62,49,32,49,62,48,32,124,32,45],[49,32,124,32,48,62,48,32,48,62,48,32,124,32,64,48,97,98,61,64,48,98,97,32,64,48,97,97,61,64,48,32,64,48,98,98,61,64,48],[51,32,124,32,48,62,49,32,50,62,49,32,124,32,45]]
structure oP(s:aa):Prop where
 ps:eE s.aL=some s
 len:s.aL.length<=60
 nl:(10:UInt8) ∉ s.aL
theorem oP.ok{s:aa}(h:oP s):s.ok=true:=(uO h.ps).1
theorem NX:(List.range 20).all (fun i=>(Fa.getD i aa.zero).ok&&(decide (mn.getD i []=(Fa.getD i aa.zero).aL)&&(decide ((mn.getD i []).length<=60)&&!(mn.getD i []).contains 10)))=true:=by decide +kernel
theorem Tn{t:List UInt8}(h:∃s:aa,s.ok=true/\t=s.aL):∃s,eE t=some s:=by
 unfold eE;rw[dif_pos h];exact⟨_,rfl⟩
theorem NY{k:Nat}(hk:k<20):∃s,eE (mn.getD k [])=some s/\oP s/\(mn.getD k []).length<=60:=by
 have h:=List.all_eq_true.1 NX k (List.mem_range.2 hk);simp only[Bool.and_eq_true,decide_eq_true_eq,Bool.not_eq_true'] at h;obtain⟨h1,h2,h3,h4⟩:=h;obtain⟨s,hs⟩:=Tn ⟨_,h1,h2⟩;have e:=(uO hs).2;refine⟨s,hs,⟨e▸hs,e▸h3,fun hm=>?_⟩,h3⟩;rw[<-e] at hm;rw[List.contains_iff_mem.2 hm] at h4;cases h4
end Go.D3
namespace Go.D3
open Go
theorem Tu{t:List UInt8}{p:aa×Hs}(h:bn t=some p){l:List ah}{d:af}(hg:ca p.1 p.2.last l=some d):∃H,bn (dE (t.take p.2.gd) l)=some (p.1,H):=by
 have e:dE (t.take p.2.gd) l=t.take p.2.gd++(bu l++(cR (t.take p.2.gd++bu l)++[10])):=by unfold dE;simp only[List.append_assoc]
 rw[e];exact⟨_,DK h hg (List.prefix_refl _)⟩
theorem P3{s:aa}(h:oP s):∃H,bn (cA s)=some (s,H):=by
 have e:=EN h.ps h.nl [];rw[List.append_nil] at e;unfold bn;rw[e];exact⟨_,rfl⟩
theorem P0{s:aa}(h:oP s):(cA s).length<=6000:=by
 have:=h.len;unfold cA;simp only[List.length_append,List.length_cons,List.length_nil];omega
theorem Ml(t:List UInt8)(l:List ah){p:aa×Hs}(h:bn t=some p):∃(u:List UInt8)(e:Int),fL t l (bn t)=.au [.str u,.int .i64 e]/\(e=0->u.length<=6000/\∃H,bn u=some (p.1,H)):=by
 rw[h];unfold fL;dsimp only;split
 ·exact⟨[],2,rfl,fun h=>by cases h⟩
 ·cases hg:ca p.1 p.2.last l with
  | none=>exact⟨[],5,rfl,fun h=>by cases h⟩
  | some d =>
   dsimp only;split
   ·exact⟨[],3,rfl,fun h=>by cases h⟩
   ·exact⟨_,0,rfl,fun _=>⟨by omega,Tu h hg⟩⟩
end Go.D3
