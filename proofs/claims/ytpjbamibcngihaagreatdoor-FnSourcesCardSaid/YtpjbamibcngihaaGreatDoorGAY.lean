/- PLAIN LAWS: journals that are drawn. -/
import Derived.Test.YtpjbamibcngihaaGreatDoorGAU
import Derived.Test.YtpjbamibcngihaaGreatDoorGAX
import Derived.Test.YtpjbamibcngihaaGreatDoorGAL
namespace Go.D3
open Go
theorem head_take{t u:List UInt8}{n:Nat}{p:aa×Nat}(h:dw t=some p)(hn:p.2<=n)(hu:u.take n=t.take n):dw u=some p:=by
 rcases sW (t:=t) (a:=0) with⟨i,_,h2,h3,h4⟩ | hf
 ·have e:=pk (fun j hj=>h4 j (Nat.zero_le _) hj) h2 h3
  have hi:i+1<=n:=by
   unfold dw at h;split at h
   ·rw[Option.map_eq_some_iff] at h
    obtain⟨s,_,rfl⟩:=h;rw[e] at hn;have:(t.take i).length=i:=by rw[List.length_take];omega
    dsimp only at hn;omega
   ·cases h
  have hui:u.getD i 0=10:=by rw[sF hu (by omega)];exact h3
  have e2:=pk (fun j hj=>by rw[sF hu (by omega)];exact h4 j (Nat.zero_le _) hj) (I4 hui) hui;unfold dw at h|-
  rw[e] at h;rw[e2,tF hu (by omega)];exact h
 ·have e:=tB fun j hj=>hf j (Nat.zero_le _) hj
  unfold dw at h;rw[e] at h;cases h
theorem Is{t l r:List UInt8}(h:(10:UInt8) ∉ l):da (t++(l++10::r)) t.length=some l:=by
 unfold da;rw[List.drop_left,qL h];rfl
theorem zZ{t y:List UInt8}(h:(10:UInt8) ∉ y):da (t++y) t.length=none:=by
 unfold da;rw[List.drop_left,Hg h];rfl
theorem F7{l r y:List UInt8}(h:y <+: l++10::r)(hl:(10:UInt8) ∉ l):(10:UInt8) ∉ y\/∃z,y=l++10::z/\z <+: r:=by
 obtain⟨q,hq⟩:=h;rcases List.append_eq_append_iff.1 hq with⟨a,h1,_⟩ | ⟨c,h1,h2⟩
 ·exact .inl fun hm=>hl (by rw[h1];exact List.mem_append_left _ hm)
 ·cases c with
  | nil=>exact .inl (by rw[h1,List.append_nil];exact hl)
  | cons x z =>
   rw[List.cons_append,List.cons.injEq] at h2;exact .inr ⟨z,by rw[h1,<-h2.1],q,h2.2.symm⟩
theorem I7{x:List UInt8}:(10:UInt8) ∉ dF x:=fun hm=>by
 unfold dF at hm;rcases List.mem_append.1 hm with hm | hm
 ·revert hm;decide
 ·have:=lL (pI (t:=x)).1 hm
  revert this;decide
theorem RN{c:ah}{x:List UInt8}:¬c.line=dF x:=fun h=>by
 have h2:c.line.getD 0 0=(dF x).getD 0 0:=by rw[h]
 unfold ah.line dF at h2;split at h2
 all_goals revert h2;simp
theorem Oo{c:ah}{l:List ah}:bL (c::l)=c.line++10::bL l:=by unfold bL;simp
theorem Po{c:ah}{l:List ah}{x:List UInt8}:bL (c::l)++x=c.line++10::(bL l++x):=by rw[Oo];simp
theorem Ie{T:List UInt8}:∀(l2 l1:List ah)(y:List UInt8),l1.length+l2.length<=40->(∀c∈l2,c.tl)->y <+: bL l2++(dF (T++bL (l1++l2))++[10]) ->
  gE (T++bL l1++y) (T++bL l1).length l1=if y=bL l2++(dF (T++bL (l1++l2))++[10]) then some (l1++l2,(T++bL l1++y).length) else none
 | [],l1,y,_,_,hy=>by
  have e0:bL []=[]:=rfl;rw[e0,List.nil_append,List.append_nil] at hy|-
  rcases F7 hy I7 with hn | ⟨z,rfl,hz⟩
  ·rw[gV,zZ hn,if_neg (fun h=>hn (by rw[h];simp))];rfl
  ·have:z=[]:=List.prefix_nil.1 hz
   subst this;rw[gV,Is I7,Option.bind_some,List.take_left,if_pos rfl,if_pos rfl];congr 2;simp only[List.length_append,List.length_cons,List.length_nil];omega
 | c::l2,l1,y,h40,hl,hy=>by
  have hc:=hl c List.mem_cons_self;rw[List.length_cons] at h40;rw[Po] at hy|-
  rcases F7 hy (Ig hc.1) with hn | ⟨z,rfl,hz⟩
  ·rw[gV,zZ hn,if_neg (fun h=>hn (by rw[h];simp))];rfl
  ·have ih:=Ie (T:=T) l2 (l1++[c]) z (by rw[List.length_append,List.length_cons,List.length_nil];omega) (fun x hx=>hl x (List.mem_cons_of_mem _ hx))
   rw[List.append_assoc,List.singleton_append] at ih;have ih:=ih hz;rw[gV,Is (Ig hc.1),Option.bind_some,if_neg RN,Q3 hc,Option.bind_some,if_neg (by omega)];have e1:T++bL (l1++[c])++z=T++bL l1++(c.line++10::z):=by rw[ye];simp
   have e2:(T++bL (l1++[c])).length=(T++bL l1).length+c.line.length+1:=by rw[ye];simp only[List.length_append,List.length_cons,List.length_nil];omega
   rw[e1,e2] at ih;rw[ih]
   have hi:(z=bL l2++(dF (T++bL (l1++c::l2))++[10]))=(c.line++10::z=c.line++10::(bL l2++(dF (T++bL (l1++c::l2))++[10]))):=propext ⟨fun h=>by rw[h],fun h=>by
    have:=List.append_cancel_left h
    injection this⟩
   simp only[hi]
theorem IY{s:aa}(hs:dT s):∀{l:List ah}{d e:af},bX s d->af.all s d l=some e->∀c∈l,c.tl
 | [],_,_,_,_,c,hc=>by cases hc
 | x::l,d,e,h,ha,c,hc=>by
  rw[af.all] at ha;split at ha
  ·rename_i hcan
   rcases List.mem_cons.1 hc with rfl | hc
   ·refine⟨Iv hs h hcan,?_⟩
    unfold af.can at hcan;rw[Bool.and_eq_true] at hcan;exact hcan.1
   ·exact IY hs (h.app hs hcan) ha c hc
  ·cases ha
theorem PW{t y:List UInt8}{p:aa×Hs}(h:bO t=some p){l:List ah}{d:af}(hg:db p.1 p.2.last l=some d)(hy:y <+: bL l++(dF (t.take p.2.gd++bL l)++[10])) :
  bO (t.take p.2.gd++y)=some (p.1,if y=bL l++(dF (t.take p.2.gd++bL l)++[10]) then p.2.push d l (t.take p.2.gd++y).length else p.2):=by
 obtain⟨ho,hk⟩:=jT h;have hs:=eQ (eK ho).1;obtain⟨g1,g2,g3⟩:=qx hg;have htl:=IY hs hk.last g1;have hgl:=hk.gl;have hT:(t.take p.2.gd).length=p.2.gd:=by rw[List.length_take];omega
 have hu:(t.take p.2.gd++y).take p.2.gd=t.take p.2.gd:=by
  conv=>lhs;rw[<-hT]
  rw[hT,List.take_append_of_le_length (by omega),List.take_take,Nat.min_self]
 have hx:=Ie (T:=t.take p.2.gd) l [] y (by simpa using g2) htl (by simpa using hy);have e0:bL []=[]:=rfl;rw[e0,List.append_nil,List.nil_append,hT] at hx;unfold bO at h|-
 rw[Option.map_eq_some_iff] at h;obtain⟨q,h1,rfl⟩:=h;dsimp only at *;have hm:=HD (s:=q.1) (t:=t) _ q.2 ⟨[eE q.1],[],q.2⟩ (Nat.le_refl _) (Nat.le_refl _);have ht:=ON (s:=q.1) (t:=t) _ q.2 ⟨[eE q.1],[],q.2⟩ (Nat.le_refl _) rfl hu;rw[head_take h1 hm hu,Option.map_some,ht];generalize cY q.1 t q.2 [] ⟨[eE q.1],[],q.2⟩=R at *;rw[qH _ R.gd [] (Nat.le_refl _),hx];by_cases hw:y=bL l++(dF (t.take R.gd++bL l)++[10])
 ·rw[if_pos hw,if_pos hw]
  dsimp only;rw[hg];dsimp only;rw[iD];have hz:=zZ (t:=t.take R.gd++y) (y:=[]) (by simp);rw[List.append_nil] at hz;rw[hz]
 ·rw[if_neg hw,if_neg hw]
end Go.D3
namespace Go.D3
open Go
end Go.D3
namespace Go.D3
open Go
theorem QE{s:aa}(h:eN s.aM=some s)(hn:(10:UInt8) ∉ s.aM)(y:List UInt8):dw (ju s++y)=some (s,(ju s).length):=by
 have hn2:(10:UInt8) ∉ eM++s.aM:=fun hm=>by
  rcases List.mem_append.1 hm with hm | hm
  ·revert hm;decide
  ·exact hn hm
 have e:ju s++y=(eM++s.aM)++10::y:=by unfold ju eM;simp
 have hp:Lib.hasPrefix (eM++s.aM) eM=true:=by
  unfold Lib.hasPrefix;simp
 have hd:(eM++s.aM).drop 7=s.aM:=rfl;unfold dw;rw[e,qL hn2];dsimp only;rw[hp,hd,h,Bool.and_self,if_pos rfl,Option.map_some];congr 2;unfold ju eM;simp
end Go.D3
namespace Go.D3
open Go
set_option maxRecDepth 100000
def JS:List aa:=[⟨1,[0],[0],[⟨0,[0,0]⟩],[⟨0,[]⟩]⟩,⟨1,[0],[0],[⟨0,[0,0]⟩],[⟨0,[0]⟩]⟩,⟨2,[0],[1],[],[]⟩,⟨3,[0,1],[1,2],[],[]⟩,⟨3,[0,1,0],[1,2,2],[⟨0,[0,1]⟩],[⟨0,[2]⟩]⟩,⟨2,[0,1],[1,0],[⟨0,[0,1]⟩],[⟨0,[]⟩]⟩,⟨2,[0,1],[1,0],[⟨0,[0,1]⟩,⟨1,[1,0]⟩],[⟨0,[]⟩,⟨1,[]⟩]⟩,⟨2,[0,0],[1,1],[],[]⟩,⟨1,[0],[0],[⟨0,[0,0,0]⟩],[⟨0,[]⟩]⟩,⟨1,[0,0],[0,0],[⟨0,[0,0]⟩,⟨0,[1,1]⟩,⟨0,[0,1]⟩,⟨0,[1,0]⟩],[⟨0,[0]⟩,⟨0,[1]⟩,⟨0,[0]⟩,⟨0,[1]⟩]⟩,⟨2,[0,1],[1,1],[⟨1,[1,1]⟩],[⟨1,[1]⟩]⟩,⟨0,[],[],[],[]⟩,⟨2,[],[],[],[]⟩,⟨4,[0,0,1,2],[1,2,3,3],[⟨0,[0,2]⟩],[⟨0,[1,3]⟩]⟩,⟨1,[0],[0],[⟨0,[0,0,0,0]⟩],[⟨0,[0,0]⟩]⟩,⟨2,[0,0],[0,1],[⟨0,[0,0]⟩,⟨0,[0,1]⟩],[⟨0,[]⟩,⟨0,[1]⟩]⟩,⟨1,[0],[0],[],[]⟩,⟨2,[0,1],[1,0],[],[]⟩,⟨1,[0,0],[0,0],[⟨0,[0,1]⟩,⟨0,[0,0]⟩,⟨0,[1,1]⟩],[⟨0,[1,0]⟩,⟨0,[]⟩,⟨0,[]⟩]⟩,⟨3,[0,2],[1,1],[],[]⟩]
def mY:List (List UInt8):=[[49,32,124,32,48,62,48,32,124,32,64,48,97,97,61,64,48],[49,32,124,32,48,62,48,32,124,32,64,48,97,97,61,64,48,97],[50,32,124,32,48,62,49,32,124,32,45],[51,32,124,32,48,62,49,32,49,62,50,32,124,32,45],[51,32,124,32,48,62,49,32,49,62,50,32,48,62,50,32,124,32,64,48,97,98,61,64,48,99],[50,32,124,32,48,62,49,32,49,62,48,32,124,32,64,48,97,98,61,64,48],[50,32,124,32,48,62,49,32,49,62,48,32,124,32,64,48,97,98,61,64,48,32,64,49,98,97,61,64,49],[50,32,124,32,48,62,49,32,48,62,49,32,124,32,45],[49,32,124,32,48,62,48,32,124,32,64,48,97,97,97,61,64,48],[49,32,124,32,48,62,48,32,48,62,48,32,124,32,64,48,97,97,61,64,48,97,32,64,48,98,98,61,64,48,98,32,64,48,97,98,61,64,48,97,32,64,48,98,97,61,64,48,98],[50,32,124,32,48,62,49,32,49,62,49,32,124,32,64,49,98,98,61,64,49,98],[48,32,124,32,45,32,124,32,45],[50,32,124,32,45,32,124,32,45],[52,32,124,32,48,62,49,32,48,62,50,32,49,62,51,32,50,62,51,32,124,32,64,48,97,99,61,64,48,98,100],[49,32,124,32,48,62,48,32,124,32,64,48,97,97,97,97,61,64,48,97,97],[50,32,124,32,48,62,48,32,48,62,49,32,124,32,64,48,97,97,61,64,48,32,64,48,97,98,61,64,48,98],[49,32,124,32,48,62,48,32,124,32,45],[50,32,124,32,48,62,49,32,49,62,48,32,124,32,45],[49,32,124,32,48,62,48,32,48,62,48,32,124,32,64,48,97,98,61,64,48,98,97,32,64,48,97,97,61,64,48,32,64,48,98,98,61,64,48],[51,32,124,32,48,62,49,32,50,62,49,32,124,32,45]]
structure pL(s:aa):Prop where
 ps:eN s.aM=some s
 len:s.aM.length<=60
 nl:(10:UInt8) ∉ s.aM
theorem pL.ok{s:aa}(h:pL s):s.ok=true:=(As h.ps).1
theorem UA:(List.range 20).all (fun i=>(JS.getD i aa.zero).ok&&(decide (mY.getD i []=(JS.getD i aa.zero).aM)&&(decide ((mY.getD i []).length<=60)&&!(mY.getD i []).contains 10)))=true:=by decide +kernel
theorem UW{t:List UInt8}(h:∃s:aa,s.ok=true/\t=s.aM):∃s,eN t=some s:=by
 unfold eN;rw[dif_pos h];exact⟨_,rfl⟩
theorem VO{k:Nat}(hk:k<20):∃s,eN (mY.getD k [])=some s/\pL s/\(mY.getD k []).length<=60:=by
 have h:=List.all_eq_true.1 UA k (List.mem_range.2 hk);simp only[Bool.and_eq_true,decide_eq_true_eq,Bool.not_eq_true'] at h;obtain⟨h1,h2,h3,h4⟩:=h;obtain⟨s,hs⟩:=UW ⟨_,h1,h2⟩;have e:=(As hs).2;refine⟨s,hs,⟨e▸hs,e▸h3,fun hm=>?_⟩,h3⟩;rw[<-e] at hm;rw[List.contains_iff_mem.2 hm] at h4;cases h4
end Go.D3
namespace Go.D3
open Go
theorem R9{t:List UInt8}{p:aa×Hs}(h:bO t=some p){l:List ah}{d:af}(hg:db p.1 p.2.last l=some d):∃H,bO (oe (t.take p.2.gd) l)=some (p.1,H):=by
 have e:oe (t.take p.2.gd) l=t.take p.2.gd++(bL l++(dF (t.take p.2.gd++bL l)++[10])):=by unfold oe;simp only[List.append_assoc]
 rw[e];exact⟨_,PW h hg (List.prefix_refl _)⟩
theorem Sk{s:aa}(h:pL s):∃H,bO (ju s)=some (s,H):=by
 have e:=QE h.ps h.nl [];rw[List.append_nil] at e;unfold bO;rw[e];exact⟨_,rfl⟩
theorem SY{s:aa}(h:pL s):(ju s).length<=6000:=by
 have:=h.len;unfold ju;simp only[List.length_append,List.length_cons,List.length_nil];omega
theorem O3(t:List UInt8)(l:List ah){p:aa×Hs}(h:bO t=some p):∃(u:List UInt8)(e:Int),mL t l (bO t)=.au [.str u,.int .i64 e]/\(e=0->u.length<=6000/\∃H,bO u=some (p.1,H)):=by
 rw[h];unfold mL;dsimp only;split
 ·exact⟨[],2,rfl,fun h=>by cases h⟩
 ·cases hg:db p.1 p.2.last l with
  | none=>exact⟨[],5,rfl,fun h=>by cases h⟩
  | some d =>
   dsimp only;split
   ·exact⟨[],3,rfl,fun h=>by cases h⟩
   ·exact⟨_,0,rfl,fun _=>⟨by omega,R9 h hg⟩⟩
end Go.D3
