/- CONTRACTS: the iterator over the arrows between two objects of a comma: the walk. -/
import Derived.Test.YtaknpcdnmecblaaGAK
import Derived.Test.YtaknpcdnmecblaaGAM
import Derived.Test.YtaknpcdnmecblaaGAH
import Derived.RangeFuncMany
import Derived.WalkKit
import Derived.OwnWalkIn
import Derived.TacticsInMore
import Derived.LoopNIn
import Derived.LoopIn
namespace Go.D3
open Go
set_option maxRecDepth 100000
set_option maxHeartbeats 4000000
def dv:List Nat:=[0,1,2,3,5,7,9,28,29,30,46,47,48,31,49,83]
abbrev K3(c:Cat):D:=.ptr [.ptr [.ptr (aL c).cells,.ptr (aL c).cells]]
theorem cV(c:Cat):(aL c).cells=[.int .i64 c.ob,ints c.fr,ints c.to,ints c.aK,aB c.co,.int .i64 c.ob,ints c.fr,ints c.to,ints c.aK,aB c.co,ints (bN c.ob.toNat),ints (bN c.fr.length)]:=rfl
theorem lA{w:World}{A:Nat->Prop}{v:Value}{k:IntKind}{n:Int}(h:Rd w A v (.int k n)):v=.int k n:=by cases h;rfl
theorem lz{w:World}{A:Nat->Prop}{v:Value}{b:Bool}(h:Rd w A v (.bool b)):v=.bool b:=by cases h;rfl
structure PW(c:Cat)(p q:List Int)(kk:Nat)(kb pb qb v5:Value)(B:Nat->Prop)(w:World):Prop where
 gl:ck w B
 lt:∀b,B b->b<w.heap.size/\b≠kk
 kl:kk<w.heap.size
 kx:∃x,kb=.pointer (some ⟨x,0,none⟩)/\B x/\w.cell? ⟨x,0,none⟩=some (.pointer (some ⟨kk,0,none⟩))
 kc:∃f1 f2,w.cell? ⟨kk,0,none⟩=some f1/\w.cell? ⟨kk,1,none⟩=some f2/\Rd w B f1 (.ptr (aL c).cells)/\Rd w B f2 (.ptr (aL c).cells)
 p:Rd w B pb (.ptr [ints p])
 q:Rd w B qb (.ptr [ints q])
 t:Rd w B v5 (.ptr ((aL c).cells.drop 5))
section
variable{c:Cat}{p q:List Int}{kk:Nat}{kb pb qb v5:Value}{B B' M M':Nat->Prop}{w w':World}
theorem PW.mono(h:PW c p q kk kb pb qb v5 B w)(hs:∀b,B b->w'.heap[b]?=w.heap[b]?)(hB:∀b,B b->B' b)(hlt:∀b,B' b->b<w'.heap.size/\b≠kk)(hk:∀i,i<2->w'.cell? ⟨kk,i,none⟩=w.cell? ⟨kk,i,none⟩)(hl:kk<w'.heap.size):PW c p q kk kb pb qb v5 B' w':=by
 obtain⟨x,e,hx,hc⟩:=h.kx;obtain⟨f1,f2,c1,c2,r1,r2⟩:=h.kc;exact⟨h.gl.mono hB hs,hlt,hl,⟨x,e,hB x hx,by rw[cell_of_heap (hs x hx)];exact hc⟩,⟨f1,f2,by rw[hk 0 (by omega)];exact c1,by rw[hk 1 (by omega)];exact c2,r1.mono hB hs,r2.mono hB hs⟩,h.p.mono hB hs,h.q.mono hB hs,h.t.mono hB hs⟩
theorem PW.ext(h:PW c p q kk kb pb qb v5 B w)(hx:Ext w w'):PW c p q kk kb pb qb v5 (NA B w w') w' :=
 h.mono (fun b hb=>hx.same b (h.lt b hb).1) (fun b hb=>.inl hb) (fun b hb=>hb.elim (fun hb=>⟨Nat.lt_of_lt_of_le (h.lt b hb).1 hx.size,(h.lt b hb).2⟩) fun hb=>⟨hb.2,by have:=h.kl;omega⟩)
  (fun i _=>cell_of_heap (hx.same kk h.kl)) (Nat.lt_of_lt_of_le h.kl hx.size)
theorem PW.Mj(h:PW c p q kk kb pb qb v5 B w):Rd w (fun b=>B b\/b=kk) kb (K3 c):=by
 obtain⟨x,rfl,hx,hc⟩:=h.kx;obtain⟨f1,f2,c1,c2,r1,r2⟩:=h.kc;refine .ptr (.inl hx) (fun _=>.pointer (some ⟨kk,0,none⟩)) (fun j y hj=>?_) fun j y hj=>?_
 ·match j with
  | 0=>exact hc
  | _+1=>cases hj
 ·match j with
  | 0 =>
   cases hj;refine .ptr (.inr rfl) (fun j=>if j=0 then f1 else f2) (fun j y hj=>?_) fun j y hj=>?_
   ·match j with
    | 0=>exact c1
    | 1=>exact c2
    | _+2=>cases hj
   ·match j with
    | 0=>cases hj;exact r1.mono (fun _ h=>.inl h) fun _ _=>rfl
    | 1=>cases hj;exact r2.mono (fun _ h=>.inl h) fun _ _=>rfl
    | _+2=>cases hj
  | _+1=>cases hj
structure zh(kk:Nat)(M:Nat->Prop)(w:World)(M':Nat->Prop)(w':World):Prop where
 size:w.heap.size<=w'.heap.size
 same:∀b,b<w.heap.size->¬M b->b≠kk->w'.heap[b]?=w.heap[b]?
 new:∀b,M' b->M b\/w.heap.size<=b
end
structure PA(c:Cat)(p q:List Int)(kk:Nat)(y kb pb qb v5:Value)(B M:Nat->Prop)(a:Act)(w:World):Prop extends PW c p q kk kb pb qb v5 B w where
 sz:a.tmps.size=92
 df:a.defers=[]
 t0:a.tmps.getD 0 undef=y
 t1:a.tmps.getD 1 undef=kb
 t2:a.tmps.getD 2 undef=pb
 t3:a.tmps.getD 3 undef=qb
 t5:a.tmps.getD 5 undef=v5
 dj:∀b,B b->¬M b
def cu(c:Cat)(p q:List Int)(x:List D):List D:=[.dead,K3 c,.ptr [ints p],.ptr [ints q],.ptr ((aL c).cells.drop 5)]++x
def Bv(ts:List Nat)(ops:Array Oper):Bool:=ops.toList.all fun o=>match o.dst with | some d=>!ts.contains d | none=>true
theorem ik{ts:List Nat}{ops:Array Oper}{a a':Act}(h:Bv ts ops=true)(hf:fr ops a a'){t:Nat}(ht:t∈ts):a'.tmps.getD t undef=a.tmps.getD t undef:=by
 refine hf.2 t fun o ho e=>?_
 have:=List.all_eq_true.1 h o ho;rw[e] at this;simp at this;exact this ht
section
variable{c:Cat}{p q:List Int}{kk:Nat}{y kb pb qb v5:Value}{B M:Nat->Prop}{a a':Act}{w w':World}
theorem PA.ju(h:PA c p q kk y kb pb qb v5 B M a w)(hM:∀b,M b->b<w.heap.size){ops:Array Oper}(hk:Bv [0,1,2,3,5] ops=true)(hf:fr ops a a'){A:Nat->Prop}{env2:List D}(ha:oS w A 92 dv a.defers env2 a' w'):PA c p q kk y kb pb qb v5 (NA B w w') M a' w' :=
 ⟨h.toPW.ext ha.ext,ha.size,ha.cG.trans h.df,(ik hk hf (by simp)).trans h.t0,(ik hk hf (by simp)).trans h.t1,(ik hk hf (by simp)).trans h.t2,(ik hk hf (by simp)).trans h.t3,(ik hk hf (by simp)).trans h.t5,fun b hb hm=>hb.elim (fun hb=>h.dj b hb hm) fun hb=>by have:=hM b hm;omega⟩
theorem PA.env(h:PA c p q kk y kb pb qb v5 B M a w){x:List D}(hx:nk a.tmps w (fun b=>B b\/b=kk) [7,9,28,29,30,46,47,48,31,49,83] x):nk a.tmps w (fun b=>B b\/b=kk) dv (cu c p q x):=by
 have up:∀{v:Value}{d:D},Rd w B v d->Rd w (fun b=>B b\/b=kk) v d:=fun hr=>hr.mono (fun _ h=>.inl h) fun _ _=>rfl
 exact⟨.inl rfl,.inr ⟨rfl,trivial,by rw[h.t1];exact h.Mj⟩,.inr ⟨rfl,trivial,by rw[h.t2];exact up h.p⟩,.inr ⟨rfl,trivial,by rw[h.t3];exact up h.q⟩,.inr ⟨rfl,trivial,by rw[h.t5];exact up h.t⟩,hx⟩
theorem PA.hA(h:PA c p q kk y kb pb qb v5 B M a w):∀b,(B b\/b=kk)->b<w.heap.size:=fun b hb=>hb.elim (fun hb=>(h.lt b hb).1) fun e=>e▸h.kl
theorem PA.hg(h:PA c p q kk y kb pb qb v5 B M a w):ck w (fun b=>B b\/b=kk):=h.gl.mono (fun _ h=>.inl h) fun _ _=>rfl
theorem cR{ts:Array Value}{A:Nat->Prop}{t:Nat}{n:Int}(h:ts.getD t undef=.int .i64 n)(hn:IntKind.i64.has n):D.int .i64 n=.dead\/((D.int .i64 n).bC=true/\(D.int .i64 n).refs cz/\Rd w A (ts.getD t undef) (.int .i64 n)):=.inr ⟨rfl,trivial,by rw[h];exact .int hn⟩
theorem iO{ts:Array Value}{t:Nat}{l:List Int}(h:Rd w B (ts.getD t undef) (ints l)):ints l=.dead\/((ints l).bC=true/\(ints l).refs cz/\Rd w (fun b=>B b\/b=kk) (ts.getD t undef) (ints l)):=.inr ⟨rfl,trivial,h.mono (fun _ h=>.inl h) fun _ _=>rfl⟩
theorem aY{ts:Array Value}{A:Nat->Prop}{t:Nat}:D.dead=.dead\/(D.dead.bC=true/\D.dead.refs cz/\Rd w A (ts.getD t undef) .dead):=.inl rfl
end
end Go.D3
namespace Go.D3
open Go Proofs
set_option maxRecDepth 100000
set_option maxHeartbeats 4000000
def Hid(p:Prop):Prop:=p
theorem seq1{F:Fence}{n:Nat}{P:Program}{r0 rest:Code}{Q:Exit->Act->World->Prop}{a:Act}{w:World}(h:∀(X:Code)(Y:Exit->Act->World->Prop),Hid (X=rest/\Y=Q)->(Code.seq r0 X).wpIn F n P Y a w):(Code.seq r0 rest).wpIn F n P Q a w:=h rest Q ⟨rfl,rfl⟩
theorem Mc{w:World}{A:Nat->Prop}{b off:Nat}{l:List D}(h:Rd w A (.pointer (some ⟨b,off,none⟩)) (.ptr l))(k:Nat):Rd w A (.pointer (some ⟨b,off+k,none⟩)) (.ptr (l.drop k)):=by
 cases h with
 | ptr hA vs hc hr =>
  refine .ptr hA (fun j=>vs (k+j)) (fun j x hx=>?_) fun j x hx=>?_
  ·rw[List.getElem?_drop] at hx
   have:=hc _ _ hx
   rwa [<-Nat.add_assoc] at this
  ·rw[List.getElem?_drop] at hx
   exact hr _ _ hx
def ez(c:Cat)(p q:List Int)(i:Nat):List (Int×Int):=((c.aH (p.getD 0 0) (q.getD 0 0)).take i).flatMap fun u=>((c.aH (p.getD 1 0) (q.getD 1 0)).filter fun v=>c.aG u (q.getD 2 0) == c.aG (p.getD 2 0) v).map fun v=>(u,v)
def eQ(c:Cat)(p q:List Int)(u:Int)(j:Nat):List (Int×Int):=(((c.aH (p.getD 1 0) (q.getD 1 0)).take j).filter fun v=>c.aG u (q.getD 2 0) == c.aG (p.getD 2 0) v).map fun v=>(u,v)
theorem CL(c:Cat)(p q:List Int):ez c p q (c.aH (p.getD 0 0) (q.getD 0 0)).length=fm c p q:=by unfold ez fm;rw[List.take_length]
theorem CM{c:Cat}{p q:List Int}{i:Nat}(h:i<(c.aH (p.getD 0 0) (q.getD 0 0)).length):ez c p q (i+1)=ez c p q i++eQ c p q ((c.aH (p.getD 0 0) (q.getD 0 0)).getD i 0) (c.aH (p.getD 1 0) (q.getD 1 0)).length:=by
 unfold ez eQ;rw[AS h 0,List.take_length]
theorem L2{c:Cat}{p q:List Int}{u:Int}{j:Nat}(h:j<(c.aH (p.getD 1 0) (q.getD 1 0)).length):eQ c p q u (j+1)=eQ c p q u j++if(c.aG u (q.getD 2 0) == c.aG (p.getD 2 0) ((c.aH (p.getD 1 0) (q.getD 1 0)).getD j 0))=true then[(u,(c.aH (p.getD 1 0) (q.getD 1 0)).getD j 0)] else[]:=by
 unfold eQ;rw[AR h 0,List.map_append];congr 1;split<;>rfl
theorem L0(c:Cat)(p q:List Int)(u:Int)(j:Nat):eQ c p q u j <+: eQ c p q u (c.aH (p.getD 1 0) (q.getD 1 0)).length:=by
 unfold eQ;rw[List.take_length];refine⟨(((c.aH (p.getD 1 0) (q.getD 1 0)).drop j).filter fun v=>c.aG u (q.getD 2 0) == c.aG (p.getD 2 0) v).map fun v=>(u,v),?_⟩;rw[<-List.map_append,<-List.filter_append,List.take_append_drop]
theorem LZ(c:Cat)(p q:List Int)(i:Nat):ez c p q i <+: fm c p q:=by
 rw[<-CL];unfold ez;rw[List.take_length];refine⟨((c.aH (p.getD 0 0) (q.getD 0 0)).drop i).flatMap fun u=>((c.aH (p.getD 1 0) (q.getD 1 0)).filter fun v=>c.aG u (q.getD 2 0) == c.aG (p.getD 2 0) v).map fun v=>(u,v),?_⟩;rw[<-List.flatMap_append,List.take_append_drop]
theorem LY{c:Cat}{p q:List Int}{i:Nat}(h:i<(c.aH (p.getD 0 0) (q.getD 0 0)).length)(j:Nat):ez c p q i++eQ c p q ((c.aH (p.getD 0 0) (q.getD 0 0)).getD i 0) j <+: fm c p q:=by
 have h1:ez c p q i++eQ c p q ((c.aH (p.getD 0 0) (q.getD 0 0)).getD i 0) j <+: ez c p q (i+1):=by
  rw[CM h];exact(List.prefix_append_right_inj _).2 (L0 c p q _ j)
 exact h1.trans (LZ c p q _)
theorem kQ{n:Nat}(h:n<=1048576):IntKind.i64.has (n:Int):=by
 have h1:IntKind.i64.max=9223372036854775807:=by decide
 have h2:IntKind.i64.min=-9223372036854775808:=by decide
 exact⟨by omega,by omega⟩
def fc(a b:Act):Prop:=b.tmps.size=a.tmps.size/\b.defers=a.defers/\∀t,t<84->b.tmps.getD t undef=a.tmps.getD t undef
theorem fc.refl(a:Act):fc a a:=⟨rfl,rfl,fun _ _=>rfl⟩
theorem jj(a:Act)(d:Nat)(v:Value):(a.put (some d) v).tmps.size=a.tmps.size:=by simp[Act.put]
theorem ly{a:Act}{d:Nat}{v:Value}(h:d<a.tmps.size):(a.put (some d) v).tmps.getD d undef=v:=by unfold Act.put;exact kO _ h
theorem qo{a:Act}{d t:Nat}{v:Value}(h:d≠t):(a.put (some d) v).tmps.getD t undef=a.tmps.getD t undef:=by unfold Act.put;exact getD_set_ne _ h
theorem fc.put{a b:Act}(h:fc a b){d:Nat}(hd : 84<=d)(v:Value):fc a (b.put (some d) v):=⟨by rw[jj];exact h.1,h.2.1,fun t ht=>by rw[qo (by omega)];exact h.2.2 t ht⟩
structure nn(ops:Array Oper)(i:Nat)(op:Op)(d:Nat)(g:Bool):Prop where
 ex:∃o,ops[i]?=some o/\o.op=op/\o.dst=some d/\o.guard=if g then some (31,true) else none
theorem H0{P:Program}{ops:Array Oper}{n l:Nat}{Q:Exit->Act->World->Prop}{a:Act}{w:World}{b:Bool}{u v:Int}(h31:(ops[31]?).bind (fun o=>o.dst)=some 83)
  (e2:nn ops 32 (.move (.tmp 0)) 84 true) (e3:nn ops 33 (.move (.tmp 7)) 85 true) (e4:nn ops 34 (.move (.tmp 9)) 86 true) (e5:nn ops 35 (.call { callee:=.value (.tmp 84),args:=#[.tmp 85,.tmp 86],argTypes:=#[2,2] }) 87 true)
  (e6:nn ops 36 (.unOp .not 4 (.tmp 87)) 88 true) (e7:nn ops 37 (.pick (.tmp 83) (.tmp 88) (.const (.bool false))) 89 false)
  (hsz:a.tmps.size=92) (t83:a.tmps.getD 83 undef=.bool b) (t0:a.tmps.getD 0 undef=.func (.yield l) #[] #[]) (t7:a.tmps.getD 7 undef=.int .i64 u) (t9:a.tmps.getD 9 undef=.int .i64 v)
  (hf:b=false->∀a',fc a a'->a'.tmps.getD 89 undef=.bool false->Q .normal a' w)
  (ht:b=true->YieldAt Fence.wide (n-1) P l #[.int .i64 u,.int .i64 v] w fun e W'=>∃r,e=.returned (.bool r)/\∀a',fc a a'->a'.tmps.getD 89 undef=.bool (!r)->Q .normal a' W') :
  ∀R∈[[32,33,34,35,36,37],[32,34,33,35,36,37],[33,32,34,35,36,37],[33,34,32,35,36,37],[34,32,33,35,36,37],[34,33,32,35,36,37]],wpOpsIn Fence.wide n P ops Q R a w:=by
 obtain⟨o2,i2,p2,d2,g2⟩:=e2.ex;obtain⟨o3,i3,p3,d3,g3⟩:=e3.ex;obtain⟨o4,i4,p4,d4,g4⟩:=e4.ex;obtain⟨o5,i5,p5,d5,g5⟩:=e5.ex;obtain⟨o6,i6,p6,d6,g6⟩:=e6.ex;obtain⟨o7,i7,p7,d7,g7⟩:=e7.ex;simp only[if_true,Bool.false_eq_true,if_false] at g2 g3 g4 g5 g6 g7
 have hy:∀a',fc a a'->yielded ops a'.tmps 31=some b:=fun a' hk=>by
  unfold yielded;rw[h31];have h83:=hk.2.2 83 (by omega);rw[t83] at h83;have hlt : 83<a'.tmps.size:=by rw[hk.1,hsz];omega
  rw[Option.bind_some,getD_some hlt,h83]
 have fin:∀a',fc a a'->(b=true->a'.tmps.getD 84 undef=.func (.yield l) #[] #[]/\a'.tmps.getD 85 undef=.int .i64 u/\a'.tmps.getD 86 undef=.int .i64 v)->wpOpsIn Fence.wide n P ops Q [35,36,37] a' w:=by
  intro a' hk hv;have s1:a'.tmps.size=92:=hk.1.trans hsz;refine tF dp i5 g5 (hy a' hk) (fun hb=>?_) fun hb=>?_
  ·obtain⟨v1,v2,v3⟩:=hv hb
   obtain⟨fn,ts,bY,body,hyl,hR⟩:=ht hb;have hnd:∀cc,o5.op≠.defer cc:=fun cc hc=>by rw[p5] at hc;cases hc
   have hrun:(execOp a'.eval o5).run P w=.ok (.round l fn ts bY body) w:=by
    have x1:a'.eval (.tmp 84)=.func (.yield l) #[] #[]:=v1;have x2:a'.eval (.tmp 85)=.int .i64 u:=v2;have x3:a'.eval (.tmp 86)=.int .i64 v:=v3;generalize a'.eval=ρ at x1 x2 x3|-
    simp[execOp,p5,resolve,x1,x2,x3,Deferred.ofValue,invoke,hyl]
   refine⟨fun f _=>trivial,?_⟩;rw[Oper.semAt_eq _ _ _ hnd,hrun,Oper.uponIn_round];refine⟨fun h=>(by cases h),hR.mono ?_⟩;rintro e W' ⟨r,rfl,hQ⟩;rw[d5];have k1:=hk.put (d:=87) (by omega) (.bool r);have y1:(a'.put (some 87) (.bool r)).tmps.getD 87 undef=.bool r:=ly (by rw[s1];omega);refine tF dp i6 g6 (hy _ k1) (fun _=>?_) fun h=>by rw[hb] at h;cases h
   refine nj dp (v:=.bool (!r)) (by unfold dz;rw[p6]) (FA p6 y1) ?_;rw[d6];have k2:=k1.put (d:=88) (by omega) (.bool (!r));have y2:((a'.put (some 87) (.bool r)).put (some 88) (.bool (!r))).tmps.getD 88 undef=.bool (!r):=ly (by rw[jj,s1];omega)
   have y3:((a'.put (some 87) (.bool r)).put (some 88) (.bool (!r))).eval (.tmp 83)=.bool true:=by
    have h83:=k2.2.2 83 (by omega);rw[t83,hb] at h83;exact h83
   refine oh i7 g7 (nj dp (v:=.bool (!r)) (by unfold dz;rw[p7]) (zb (q:=false) p7 y3 (fun _=>y2) fun h=>by cases h) ?_);simp only[wpOpsIn];rw[d7];exact hQ _ (k2.put (by omega) _) (ly (by rw[jj,jj,s1];omega))
  ·have k1:=hk.put (d:=87) (by omega) undef
   rw[d5];refine tF dp i6 g6 (hy _ k1) (fun h=>by rw[hb] at h;cases h) fun _=>?_
   rw[d6];have k2:=k1.put (d:=88) (by omega) undef;refine oh i7 g7 (nj dp (v:=.bool false) (by unfold dz;rw[p7]) ?_ ?_)
   ·have h83:=k2.2.2 83 (by omega)
    rw[t83,hb] at h83;exact zb (p:=false) p7 h83 (fun h=>by cases h) fun _=>rfl
   ·simp only[wpOpsIn]
    rw[d7];exact hf hb _ (k2.put (by omega) _) (ly (by rw[jj,jj,s1];omega))
 have mv:∀{i s d:Nat}{o:Oper}{R:List Nat}{a':Act},ops[i]?=some o->o.op=.move (.tmp s)->o.dst=some d->o.guard=some (31,true)->fc a a'->84<=d->(∀x,(b=true->x=a'.tmps.getD s undef)->wpOpsIn Fence.wide n P ops Q R (a'.put (some d) x) w)->wpOpsIn Fence.wide n P ops Q (i::R) a' w:=by
  intro i s d o R a' hi hop hd hg hk hd4 h;refine tF dp hi hg (hy a' hk) (fun hb=>?_) fun hb=>?_
  ·refine nj dp (v:=a'.tmps.getD s undef) (by unfold dz;rw[hop]) ?_ ?_
   ·exact qL (x:=.tmp s) (.inl hop)
   ·rw[hd];exact h _ fun _=>rfl
  ·rw[hd];exact h _ fun h=>by rw[hb] at h;cases h
 have z:∀a',fc a a'->a'.tmps.size=92:=fun a' hk=>hk.1.trans hsz
 have all:∀(x y z':Value)(d1 d2 d3:Nat),(b=true->∀t w',(t,w')∈[(d1,x),(d2,y),(d3,z')]->(t=84->w'=.func (.yield l) #[] #[])/\(t=85->w'=.int .i64 u)/\(t=86->w'=.int .i64 v))->(84∈[d1,d2,d3]/\85∈[d1,d2,d3]/\86∈[d1,d2,d3])->(∀d∈[d1,d2,d3],84<=d/\d<87)->d1≠d2->d1≠d3->d2≠d3->wpOpsIn Fence.wide n P ops Q [35,36,37] (((a.put (some d1) x).put (some d2) y).put (some d3) z') w:=by
  intro x y z' d1 d2 d3 hv hd hlt n1 n2 n3;have l1:=hlt d1 (by simp);have l2:=hlt d2 (by simp);have l3:=hlt d3 (by simp)
  have g1:∀t w',(t,w')∈[(d1,x),(d2,y),(d3,z')]->(((a.put (some d1) x).put (some d2) y).put (some d3) z').tmps.getD t undef=w':=by
   intro t w' hm;simp only[List.mem_cons,List.not_mem_nil,or_false,Prod.mk.injEq] at hm;rcases hm with⟨rfl,rfl⟩ | ⟨rfl,rfl⟩ | ⟨rfl,rfl⟩
   ·rw[qo (Ne.symm n2),qo (Ne.symm n1),ly (by omega)]
   ·rw[qo (Ne.symm n3),ly (by rw[jj];omega)]
   ·rw[ly (by rw[jj,jj];omega)]
  have g2:∀t,t∈[d1,d2,d3]->∃w',(t,w')∈[(d1,x),(d2,y),(d3,z')]:=fun t ht=>by
   simp only[List.mem_cons,List.not_mem_nil,or_false] at ht;rcases ht with rfl | rfl | rfl
   ·exact⟨x,by simp⟩
   ·exact⟨y,by simp⟩
   ·exact⟨z',by simp⟩
  refine fin _ ((((fc.refl a).put l1.1 _).put l2.1 _).put l3.1 _) fun hb=>⟨?_,?_,?_⟩
  ·obtain⟨w',hw⟩:=g2 _ hd.1
   rw[g1 _ _ hw,(hv hb _ _ hw).1 rfl]
  ·obtain⟨w',hw⟩:=g2 _ hd.2.1
   rw[g1 _ _ hw,(hv hb _ _ hw).2.1 rfl]
  ·obtain⟨w',hw⟩:=g2 _ hd.2.2
   rw[g1 _ _ hw,(hv hb _ _ hw).2.2 rfl]
 have q1:=fc.refl a;have gt:∀{a':Act},fc a a'->∀{x:Value}{t:Nat},t<84->(b=true->x=a'.tmps.getD t undef)->b=true->x=a.tmps.getD t undef:=fun hk x t ht hx hb=>(hx hb).trans (hk.2.2 t ht)
 intro R hR;simp only[List.mem_cons,List.not_mem_nil,or_false] at hR;rcases hR with rfl | rfl | rfl | rfl | rfl | rfl
 ·refine mv i2 p2 d2 g2 q1 (by omega) fun x hx=>mv i3 p3 d3 g3 (q1.put (by omega) _) (by omega) fun y hy'=>mv i4 p4 d4 g4 ((q1.put (by omega) _).put (by omega) _) (by omega) fun z' hz=>all x y z' _ _ _ ?_ (by simp) (by simp) (by simp) (by simp) (by simp)
  intro hb t w' hm;have e1:=gt q1 (by omega) hx hb;have e2:=gt (q1.put (d:=84) (by omega) x) (by omega) hy' hb;have e3:=gt ((q1.put (d:=84) (by omega) x).put (d:=85) (by omega) y) (by omega) hz hb;rw[t0] at e1;rw[t7] at e2;rw[t9] at e3;simp only[List.mem_cons,List.not_mem_nil,or_false,Prod.mk.injEq] at hm;rcases hm with⟨rfl,rfl⟩ | ⟨rfl,rfl⟩ | ⟨rfl,rfl⟩<;>simp[e1,e2,e3]
 ·refine mv i2 p2 d2 g2 q1 (by omega) fun x hx=>mv i4 p4 d4 g4 (q1.put (by omega) _) (by omega) fun y hy'=>mv i3 p3 d3 g3 ((q1.put (by omega) _).put (by omega) _) (by omega) fun z' hz=>all x y z' _ _ _ ?_ (by simp) (by simp) (by simp) (by simp) (by simp)
  intro hb t w' hm;have e1:=gt q1 (by omega) hx hb;have e2:=gt (q1.put (d:=84) (by omega) x) (by omega) hy' hb;have e3:=gt ((q1.put (d:=84) (by omega) x).put (d:=86) (by omega) y) (by omega) hz hb;rw[t0] at e1;rw[t9] at e2;rw[t7] at e3;simp only[List.mem_cons,List.not_mem_nil,or_false,Prod.mk.injEq] at hm;rcases hm with⟨rfl,rfl⟩ | ⟨rfl,rfl⟩ | ⟨rfl,rfl⟩<;>simp[e1,e2,e3]
 ·refine mv i3 p3 d3 g3 q1 (by omega) fun x hx=>mv i2 p2 d2 g2 (q1.put (by omega) _) (by omega) fun y hy'=>mv i4 p4 d4 g4 ((q1.put (by omega) _).put (by omega) _) (by omega) fun z' hz=>all x y z' _ _ _ ?_ (by simp) (by simp) (by simp) (by simp) (by simp)
  intro hb t w' hm;have e1:=gt q1 (by omega) hx hb;have e2:=gt (q1.put (d:=85) (by omega) x) (by omega) hy' hb;have e3:=gt ((q1.put (d:=85) (by omega) x).put (d:=84) (by omega) y) (by omega) hz hb;rw[t7] at e1;rw[t0] at e2;rw[t9] at e3;simp only[List.mem_cons,List.not_mem_nil,or_false,Prod.mk.injEq] at hm;rcases hm with⟨rfl,rfl⟩ | ⟨rfl,rfl⟩ | ⟨rfl,rfl⟩<;>simp[e1,e2,e3]
 ·refine mv i3 p3 d3 g3 q1 (by omega) fun x hx=>mv i4 p4 d4 g4 (q1.put (by omega) _) (by omega) fun y hy'=>mv i2 p2 d2 g2 ((q1.put (by omega) _).put (by omega) _) (by omega) fun z' hz=>all x y z' _ _ _ ?_ (by simp) (by simp) (by simp) (by simp) (by simp)
  intro hb t w' hm;have e1:=gt q1 (by omega) hx hb;have e2:=gt (q1.put (d:=85) (by omega) x) (by omega) hy' hb;have e3:=gt ((q1.put (d:=85) (by omega) x).put (d:=86) (by omega) y) (by omega) hz hb;rw[t7] at e1;rw[t9] at e2;rw[t0] at e3;simp only[List.mem_cons,List.not_mem_nil,or_false,Prod.mk.injEq] at hm;rcases hm with⟨rfl,rfl⟩ | ⟨rfl,rfl⟩ | ⟨rfl,rfl⟩<;>simp[e1,e2,e3]
 ·refine mv i4 p4 d4 g4 q1 (by omega) fun x hx=>mv i2 p2 d2 g2 (q1.put (by omega) _) (by omega) fun y hy'=>mv i3 p3 d3 g3 ((q1.put (by omega) _).put (by omega) _) (by omega) fun z' hz=>all x y z' _ _ _ ?_ (by simp) (by simp) (by simp) (by simp) (by simp)
  intro hb t w' hm;have e1:=gt q1 (by omega) hx hb;have e2:=gt (q1.put (d:=86) (by omega) x) (by omega) hy' hb;have e3:=gt ((q1.put (d:=86) (by omega) x).put (d:=84) (by omega) y) (by omega) hz hb;rw[t9] at e1;rw[t0] at e2;rw[t7] at e3;simp only[List.mem_cons,List.not_mem_nil,or_false,Prod.mk.injEq] at hm;rcases hm with⟨rfl,rfl⟩ | ⟨rfl,rfl⟩ | ⟨rfl,rfl⟩<;>simp[e1,e2,e3]
 ·refine mv i4 p4 d4 g4 q1 (by omega) fun x hx=>mv i3 p3 d3 g3 (q1.put (by omega) _) (by omega) fun y hy'=>mv i2 p2 d2 g2 ((q1.put (by omega) _).put (by omega) _) (by omega) fun z' hz=>all x y z' _ _ _ ?_ (by simp) (by simp) (by simp) (by simp) (by simp)
  intro hb t w' hm;have e1:=gt q1 (by omega) hx hb;have e2:=gt (q1.put (d:=86) (by omega) x) (by omega) hy' hb;have e3:=gt ((q1.put (d:=86) (by omega) x).put (d:=85) (by omega) y) (by omega) hz hb;rw[t9] at e1;rw[t7] at e2;rw[t0] at e3;simp only[List.mem_cons,List.not_mem_nil,or_false,Prod.mk.injEq] at hm;rcases hm with⟨rfl,rfl⟩ | ⟨rfl,rfl⟩ | ⟨rfl,rfl⟩<;>simp[e1,e2,e3]
theorem Hz{ops:Array Oper}{k:Nat}(h:((List.range ops.size).all fun j=>decide (j<k) || (List.range k).all fun x=>dy (cF [] ops.toList) j x)=true):∀j,k<=j->j<ops.size->∀x,x<k->dy (cF [] ops.toList) j x=true:=fun j h1 h2 x hx=>by
 have:=List.all_eq_true.1 h j (List.mem_range.2 h2);rw[decide_eq_false (by omega),Bool.false_or] at this;exact List.all_eq_true.1 this x (List.mem_range.2 hx)
theorem G9{ops:Array Oper}{k m:Nat}(h:((List.range ops.size).all fun j=>decide (j<k) || (match ops[j]? with | some o=>(match o.dst with | some x=>decide (m<=x) | none=>true) | none=>true))=true){i:Nat}(hi:k<=i){t:Nat}(ht:t<m){o:Oper}(ho:ops[i]?=some o):o.dst≠some t:=fun e=>by
 have:=List.all_eq_true.1 h i (List.mem_range.2 (Array.getElem?_eq_some_iff.1 ho).1);rw[decide_eq_false (by omega),Bool.false_or,ho] at this;simp only[e,decide_eq_true_eq] at this;omega
theorem Fi{j t:Nat}(h:dv[j]?=some t):t<84:=by
 have:dv.all (fun t=>decide (t<84))=true:=by decide
 exact of_decide_eq_true (List.all_eq_true.1 this t (List.mem_of_getElem? h))
theorem PA.bu{c:Cat}{p q:List Int}{kk:Nat}{y kb pb qb v5:Value}{B M:Nat->Prop}{a a':Act}{w:World}(h:PA c p q kk y kb pb qb v5 B M a w)(hk:fc a a'):PA c p q kk y kb pb qb v5 B M a' w :=
 ⟨h.toPW,hk.1.trans h.sz,hk.2.1.trans h.df,(hk.2.2 0 (by omega)).trans h.t0,(hk.2.2 1 (by omega)).trans h.t1,(hk.2.2 2 (by omega)).trans h.t2,(hk.2.2 3 (by omega)).trans h.t3,(hk.2.2 5 (by omega)).trans h.t5,h.dj⟩
theorem PA.round{c:Cat}{p q:List Int}{kk:Nat}{y kb pb qb v5:Value}{B M M' N:Nat->Prop}{a:Act}{w w':World}(h:PA c p q kk y kb pb qb v5 B M a w)(hr:zh kk M w M' w')(hN:∀b,N b->b<w'.heap.size/\b≠kk/\¬M' b)
  (hk:∃f1 f2,w'.cell? ⟨kk,0,none⟩=some f1/\w'.cell? ⟨kk,1,none⟩=some f2/\Rd w' N f1 (.ptr (aL c).cells)/\Rd w' N f2 (.ptr (aL c).cells)):PA c p q kk y kb pb qb v5 (fun b=>B b\/N b) M' a w':=by
 have hs:∀b,B b->w'.heap[b]?=w.heap[b]?:=fun b hb=>hr.same b (h.lt b hb).1 (h.dj b hb) (h.lt b hb).2
 obtain⟨x,e,hx,hc⟩:=h.kx;obtain⟨f1,f2,c1,c2,r1,r2⟩:=hk;have up:∀{v:Value}{d:D},Rd w B v d->Rd w' (fun b=>B b\/N b) v d:=fun hv=>hv.mono (fun _ h=>.inl h) hs
 have up2:∀{v:Value}{d:D},Rd w' N v d->Rd w' (fun b=>B b\/N b) v d:=fun hv=>hv.mono (fun _ h=>.inr h) fun _ _=>rfl
 exact⟨⟨h.gl.mono (fun _ h=>.inl h) hs,fun b hb=>hb.elim (fun hb=>⟨Nat.lt_of_lt_of_le (h.lt b hb).1 hr.size,(h.lt b hb).2⟩) fun hb=>⟨(hN b hb).1,(hN b hb).2.1⟩,Nat.lt_of_lt_of_le h.kl hr.size,⟨x,e,.inl hx,by rw[cell_of_heap (hs x hx)];exact hc⟩,⟨f1,f2,c1,c2,up2 r1,up2 r2⟩,up h.p,up h.q,up h.t⟩,
  h.sz,h.df,h.t0,h.t1,h.t2,h.t3,h.t5,fun b hb hm=>hb.elim (fun hb=>(hr.new b hm).elim (h.dj b hb) fun h2=>by have:=(h.lt b hb).1;omega) fun hb=>(hN b hb).2.2 hm⟩
theorem LF(c:Cat)(hb:c.cZ=true)(p q:List Int){pa pb' pg qa qb' qg:Int}(hpo:qP c p pa pb' pg)(hqo:qP c q qa qb' qg)(kk:Nat)(n l:Nat)(kb pb qb:Value)(B M:Nat->Prop)(W:World)
  (J:List (Int×Int)->(Nat->Prop)->World->Prop) (Jx:World->Prop)
  (hkb:∃x,kb=.pointer (some ⟨x,0,none⟩)/\B x/\W.cell? ⟨x,0,none⟩=some (.pointer (some ⟨kk,0,none⟩))) (hkc:∃f1 f2,W.cell? ⟨kk,0,none⟩=some f1/\W.cell? ⟨kk,1,none⟩=some f2/\Rd W B f1 (.ptr (aL c).cells)/\Rd W B f2 (.ptr (aL c).cells))
  (hgl:ck W B) (hlt:∀b,B b->b<W.heap.size/\b≠kk) (hkl:kk<W.heap.size) (hpb:Rd W B pb (.ptr [ints p])) (hqb:Rd W B qb (.ptr [ints q])) (hdj:∀b,B b->¬M b)
  (hJe:∀{pre M W W'},J pre M W->Ext W W'->J pre M W') (hJl:∀{pre M W},J pre M W->∀b,M b->b<W.heap.size)
  (hJk:∀{pre M W},J pre M W->∃N:Nat->Prop,(∀b,N b->b<W.heap.size/\b≠kk/\¬M b)/\∃f1 f2,W.cell? ⟨kk,0,none⟩=some f1/\W.cell? ⟨kk,1,none⟩=some f2/\Rd W N f1 (.ptr (aL c).cells)/\Rd W N f2 (.ptr (aL c).cells))
  (hY:∀(pre:List (Int×Int))(M:Nat->Prop)(W:World)(x:Int×Int)(m:Nat),J pre M W->pre++[x] <+: fm c p q->YieldAt Fence.wide m Try.prog l #[.int .i64 x.1,.int .i64 x.2] W fun e W'=>(e=.returned (.bool true)/\∃M',J (pre++[x]) M' W'/\zh kk M W M' W')\/(e=.returned (.bool false)/\Jx W'))
  (h0:J [] M W) :
  CallsIn Fence.wide n Try.prog 59 #[.func (.yield l) #[] #[],kb,pb,qb] W fun e W'=>(∃v,e=.returned v)/\((∃M',J (fm c p q) M' W')\/Jx W'):=by
 obtain⟨hc,-,-⟩:=fS hb;have hfr:=hc.fr;have hco:=hc.co;have hp3:p.length=3:=by rw[hpo.eq];rfl
 have hq3:q.length=3:=by rw[hqo.eq];rfl
 have gp : 0<=p.getD 2 0/\p.getD 2 0<c.fr.length:=by rw[hpo.eq];exact hpo.h0
 have gq : 0<=q.getD 2 0/\q.getD 2 0<c.fr.length:=by rw[hqo.eq];exact hqo.h0
 obtain⟨x,rfl,hBx,hcx⟩:=hkb;obtain⟨f1,f2,c1,c2,r1,r2⟩:=hkc;obtain⟨fb,fo,rfl⟩:∃b off,f1=.pointer (some ⟨b,off,none⟩):=by cases r1;exact⟨_,_,rfl⟩
 refine callsIn_of_wp Try.func59 rfl trivial ?_ rfl;simp only[Try.ntmps59,List.size_toArray,List.length_cons,List.length_nil,Nat.reduceAdd,Nat.reduceSub,Array.replicate_succ,Array.replicate_zero,List.push_toArray,List.append_toArray,List.nil_append,List.cons_append];refine seq1 fun X Y hX=>?_
 gi_wp2
 have hs:∀a:Act,PA c p q kk (.func (.yield l) #[] #[]) (.pointer (some ⟨x,0,none⟩)) pb qb (.pointer (some ⟨fb,fo+5,none⟩)) B M a W->X.wpIn Fence.wide n Try.prog Y a W:=by
  obtain⟨rfl,rfl⟩:=hX;intro a0 P0;have hm0:=hJl h0;refine wpIn_seq ?_
  refine De (tr:=dv) dp [7,8,9] (oL [.ld (.v 1),.dc (.t 0),.fA 0 (.t 1),.ld (.t 2),.dc (.t 3),.fA 0 (.t 4),.ld (.v 2),.ee 1 (.t 6) (.i 0),.ld (.t 7),.ld (.v 3),.ee 1 (.t 9) (.i 0),.ld (.t 10),.call 58 [(.t 5),(.t 8),(.t 11)],.len (.t 12),.mv (.i 0)]) [(7,12),(8,13),(9,14)]
   (cu c p q [.dead,.dead,.o (ints (c.aH (p.getD 0 0) (q.getD 0 0))),.int .i64 (c.aH (p.getD 0 0) (q.getD 0 0)).length,.int .i64 0,.dead,.dead,.dead,.dead,.dead,.dead])
   P0.hA P0.hg P0.sz (by simp[cu,dv]) (by decide) (P0.env (x:=[.dead,.dead,.dead,.dead,.dead,.dead,.dead,.dead,.dead,.dead,.dead]) ⟨aY,aY,aY,aY,aY,aY,aY,aY,aY,aY,aY,trivial⟩)
   (by decide +kernel) (by decide +kernel) (by decide +kernel) (by decide +kernel) ?_ ?_
  ·simp only[cu,cV]
   simp only[go_sem];refine⟨by omega,by omega,l8 (bs:=[_,_,_]) (wU c (p.getD 0 0) (q.getD 0 0) (by omega) hc.to) rfl ⟨.inr ⟨5,_,rfl,rfl⟩,.inl rfl,.inl rfl,trivial⟩ (.inl (ch _)) ?_⟩;simp only[go_sem]
  intro a1 w1 hf1 h1;have P1:=P0.ju hm0 (by decide +kernel) hf1 h1;have us1:Rd w1 (NA B W w1) (a1.tmps.getD 28 undef) (ints (c.aH (p.getD 0 0) (q.getD 0 0))):=(h1.own 7 28 _ rfl rfl (ch _)).mono (fun _ h=>.inr h) fun _ _=>rfl
  have t29:=lA (h1.rd 8 29 _ rfl rfl rfl trivial);have t30:=lA (h1.rd 9 30 _ rfl rfl rfl trivial);have hJ1:=hJe h0 h1.ext;clear h1 hf1 P0;generalize NA B W w1=B1 at P1 us1;refine wpIn_block ?_;have hU:=@jG c (p.getD 0 0) (q.getD 0 0) hfr;have hV:=@jG c (p.getD 1 0) (q.getD 1 0) hfr;generalize hUe:c.aH (p.getD 0 0) (q.getD 0 0)=U at *
  refine tG (fun m a w=>∃(B M:Nat->Prop)(i:Nat),PA c p q kk (.func (.yield l) #[] #[]) (.pointer (some ⟨x,0,none⟩)) pb qb (.pointer (some ⟨fb,fo+5,none⟩)) B M a w/\J (ez c p q i) M w/\Rd w B (a.tmps.getD 28 undef) (ints U)/\a.tmps.getD 29 undef=.int .i64 U.length/\a.tmps.getD 30 undef=.int .i64 (i:Nat)/\i<=U.length/\m=U.length-i) (n0:=U.length)
   ⟨B1,M,0,P1,hJ1,us1,t29,t30,Nat.zero_le _,rfl⟩ ?_
  clear P1 hJ1 us1 t29 t30;rintro m a w ⟨B,M,i,P1,hJ,us,t29,t30,hi,rfl⟩;have iU:IntKind.i64.has (U.length:Int):=kQ (by omega);have iI:IntKind.i64.has (i:Int):=kQ (by omega);refine wpIn_seq ?_
  refine mR (tr:=dv) dp [13] (oL [.bin .lss (.v 9) (.v 8)]) [(13,0)]
   (cu c p q [.dead,.dead,ints U,.int .i64 U.length,.int .i64 i,.dead,.dead,.dead,.bool (decide (i<U.length)),.dead,.dead])
   P1.hA P1.hg P1.sz (by simp[cu,dv]) (by decide) (P1.env (x:=[.dead,.dead,ints U,.int .i64 U.length,.int .i64 i,.dead,.dead,.dead,.dead,.dead,.dead]) ⟨aY,aY,iO us,cR t29 iU,cR t30 iI,aY,aY,aY,aY,aY,aY,trivial⟩)
   (by decide +kernel) (by decide +kernel) (by decide +kernel) ?_ ?_
  ·simp only[cu,cV]
   simp only[go_sem]
  intro a1 w1 hf1 h1;have hm1:=hJl hJ;have P2:=P1.ju hm1 (by decide +kernel) hf1 h1
  have us2:Rd w1 (NA B w w1) (a1.tmps.getD 28 undef) (ints U):=by
   rw[hf1.2 28 (by decide)];exact us.mono (fun _ h=>.inl h) fun b hb=>h1.ext.same b (P1.lt b hb).1
  have s29:a1.tmps.getD 29 undef=.int .i64 U.length:=by rw[hf1.2 29 (by decide)];exact t29
  have s30:a1.tmps.getD 30 undef=.int .i64 (i:Nat):=by rw[hf1.2 30 (by decide)];exact t30
  have t31:=lz (h1.rd 13 31 _ rfl rfl rfl trivial);have hJ2:=hJe hJ h1.ext;clear h1 hf1 P1 us hJ t29 t30 hm1;generalize NA B w w1=B1 at P2 us2;refine wpIn_seq ?_;by_cases hlt':i<U.length
  ·rw[decide_eq_true hlt'] at t31
   refine wpIn_cond_true t31 (wpIn_skip ?_);have mU:U.getD i 0∈c.aH (p.getD 0 0) (q.getD 0 0):=by rw[hUe,bT hlt'];exact List.getElem_mem hlt'
   have gU:=Cat.cU.1 mU
   have iu:IntKind.i64.has (U.getD i 0):=by
    have:=kQ (n:=(U.getD i 0).toNat) (by omega)
    rwa [Int.toNat_of_nonneg gU.1] at this
   generalize hu:U.getD i 0=u at mU gU iu;refine wpIn_seq (wpIn_block (wpIn_seq ?_))
   refine mR (tr:=dv) dp [] (oL [.ee 1 (.v 7) (.v 9),.ld (.t 0),.a 5 1]) []
    (cu c p q [.int .i64 u,.dead,ints U,.int .i64 U.length,.int .i64 i,.dead,.dead,.dead,.dead,.dead,.dead])
    P2.hA P2.hg P2.sz (by simp[cu,dv]) (by decide) (P2.env (x:=[.dead,.dead,ints U,.int .i64 U.length,.int .i64 i,.dead,.dead,.dead,.dead,.dead,.dead]) ⟨aY,aY,iO us2,cR s29 iU,cR s30 iI,aY,aY,aY,aY,aY,aY,trivial⟩)
    (by decide +kernel) (by decide +kernel) (by decide +kernel) ?_ ?_
   ·simp only[cu,cV]
    simp only[go_sem];exact⟨hlt',by rw[hu]⟩
   intro a2 w2 hf2 h2;have hm2:=hJl hJ2;have P3:=P2.ju hm2 (by decide +kernel) hf2 h2
   have us3:Rd w2 (NA B1 w1 w2) (a2.tmps.getD 28 undef) (ints U):=by
    rw[hf2.2 28 (by decide)];exact us2.mono (fun _ h=>.inl h) fun b hb=>h2.ext.same b (P2.lt b hb).1
   have r29:a2.tmps.getD 29 undef=.int .i64 U.length:=by rw[hf2.2 29 (by decide)];exact s29
   have r30:a2.tmps.getD 30 undef=.int .i64 (i:Nat):=by rw[hf2.2 30 (by decide)];exact s30
   have r7:=lA (h2.rd 5 7 _ rfl rfl rfl trivial);have hJ3:=hJe hJ2 h2.ext;clear h2 hf2 P2 us2 hJ2 s29 s30 hm2;generalize NA B1 w1 w2=B2 at P3 us3;refine wpIn_seq ?_
   refine De (tr:=dv) dp [10,11,12] (oL [.ld (.v 1),.dc (.t 0),.fA 1 (.t 1),.ld (.t 2),.dc (.t 3),.fA 0 (.t 4),.ld (.v 2),.ee 1 (.t 6) (.i 1),.ld (.t 7),.ld (.v 3),.ee 1 (.t 9) (.i 1),.ld (.t 10),.call 58 [(.t 5),(.t 8),(.t 11)],.len (.t 12),.mv (.i 0)]) [(10,12),(11,13),(12,14)]
    (cu c p q [.int .i64 u,.dead,ints U,.int .i64 U.length,.int .i64 i,.o (ints (c.aH (p.getD 1 0) (q.getD 1 0))),.int .i64 (c.aH (p.getD 1 0) (q.getD 1 0)).length,.int .i64 0,.dead,.dead,.dead])
    P3.hA P3.hg P3.sz (by simp[cu,dv]) (by decide) (P3.env (x:=[.int .i64 u,.dead,ints U,.int .i64 U.length,.int .i64 i,.dead,.dead,.dead,.dead,.dead,.dead]) ⟨cR r7 iu,aY,iO us3,cR r29 iU,cR r30 iI,aY,aY,aY,aY,aY,aY,trivial⟩)
    (by decide +kernel) (by decide +kernel) (by decide +kernel) (by decide +kernel) ?_ ?_
   ·simp only[cu,cV]
    simp only[go_sem];refine⟨by omega,by omega,l8 (bs:=[_,_,_]) (wU c (p.getD 1 0) (q.getD 1 0) (by omega) hc.to) rfl ⟨.inr ⟨5,_,rfl,rfl⟩,.inl rfl,.inl rfl,trivial⟩ (.inl (ch _)) ?_⟩;simp only[go_sem]
   intro a3 w3 hf3 h3;have hm3:=hJl hJ3;have P4:=P3.ju hm3 (by decide +kernel) hf3 h3
   have us4:Rd w3 (NA B2 w2 w3) (a3.tmps.getD 28 undef) (ints U):=by
    rw[hf3.2 28 (by decide)];exact us3.mono (fun _ h=>.inl h) fun b hb=>h3.ext.same b (P3.lt b hb).1
   have q29:a3.tmps.getD 29 undef=.int .i64 U.length:=by rw[hf3.2 29 (by decide)];exact r29
   have q30:a3.tmps.getD 30 undef=.int .i64 (i:Nat):=by rw[hf3.2 30 (by decide)];exact r30
   have q7:a3.tmps.getD 7 undef=.int .i64 u:=by rw[hf3.2 7 (by decide)];exact r7
   have vs4:Rd w3 (NA B2 w2 w3) (a3.tmps.getD 46 undef) (ints (c.aH (p.getD 1 0) (q.getD 1 0))):=(h3.own 10 46 _ rfl rfl (ch _)).mono (fun _ h=>.inr h) fun _ _=>rfl
   have q47:=lA (h3.rd 11 47 _ rfl rfl rfl trivial);have q48:=lA (h3.rd 12 48 _ rfl rfl rfl trivial);have hJ4:=hJe hJ3 h3.ext;clear h3 hf3 P3 us3 hJ3 r29 r30 r7 hm3;generalize NA B2 w2 w3=B3 at P4 us4 vs4;refine wpIn_block ?_;generalize hVe:c.aH (p.getD 1 0) (q.getD 1 0)=V at *
   refine tG (fun m a w=>∃(B M:Nat->Prop)(j:Nat),PA c p q kk (.func (.yield l) #[] #[]) (.pointer (some ⟨x,0,none⟩)) pb qb (.pointer (some ⟨fb,fo+5,none⟩)) B M a w/\J (ez c p q i++eQ c p q u j) M w/\Rd w B (a.tmps.getD 28 undef) (ints U)/\a.tmps.getD 29 undef=.int .i64 U.length/\a.tmps.getD 30 undef=.int .i64 (i:Nat) /\
    a.tmps.getD 7 undef=.int .i64 u/\Rd w B (a.tmps.getD 46 undef) (ints V)/\a.tmps.getD 47 undef=.int .i64 V.length/\a.tmps.getD 48 undef=.int .i64 (j:Nat)/\j<=V.length/\m=V.length-j) (n0:=V.length)
    ⟨B3,M,0,P4,by simpa[eQ] using hJ4,us4,q29,q30,q7,vs4,q47,q48,Nat.zero_le _,rfl⟩ ?_
   clear P4 hJ4 us4 q29 q30 q7 vs4 q47 q48;rintro m a w ⟨B,M,j,P1,hJ,us,t29,t30,t7,vs,t47,t48,hj,rfl⟩;have iV:IntKind.i64.has (V.length:Int):=kQ (by omega);have iJ:IntKind.i64.has (j:Int):=kQ (by omega);refine wpIn_seq ?_
   refine mR (tr:=dv) dp [14] (oL [.bin .lss (.v 12) (.v 11)]) [(14,0)]
    (cu c p q [.int .i64 u,.dead,ints U,.int .i64 U.length,.int .i64 i,ints V,.int .i64 V.length,.int .i64 j,.dead,.bool (decide (j<V.length)),.dead])
    P1.hA P1.hg P1.sz (by simp[cu,dv]) (by decide) (P1.env (x:=[.int .i64 u,.dead,ints U,.int .i64 U.length,.int .i64 i,ints V,.int .i64 V.length,.int .i64 j,.dead,.dead,.dead]) ⟨cR t7 iu,aY,iO us,cR t29 iU,cR t30 iI,iO vs,cR t47 iV,cR t48 iJ,aY,aY,aY,trivial⟩)
    (by decide +kernel) (by decide +kernel) (by decide +kernel) ?_ ?_
   ·simp only[cu,cV]
    simp only[go_sem]
   intro a1 w1 hf1 h1;have hm1:=hJl hJ;have P2:=P1.ju hm1 (by decide +kernel) hf1 h1
   have us2:Rd w1 (NA B w w1) (a1.tmps.getD 28 undef) (ints U):=by
    rw[hf1.2 28 (by decide)];exact us.mono (fun _ h=>.inl h) fun b hb=>h1.ext.same b (P1.lt b hb).1
   have vs2:Rd w1 (NA B w w1) (a1.tmps.getD 46 undef) (ints V):=by
    rw[hf1.2 46 (by decide)];exact vs.mono (fun _ h=>.inl h) fun b hb=>h1.ext.same b (P1.lt b hb).1
   have s29:a1.tmps.getD 29 undef=.int .i64 U.length:=by rw[hf1.2 29 (by decide)];exact t29
   have s30:a1.tmps.getD 30 undef=.int .i64 (i:Nat):=by rw[hf1.2 30 (by decide)];exact t30
   have s7:a1.tmps.getD 7 undef=.int .i64 u:=by rw[hf1.2 7 (by decide)];exact t7
   have s47:a1.tmps.getD 47 undef=.int .i64 V.length:=by rw[hf1.2 47 (by decide)];exact t47
   have s48:a1.tmps.getD 48 undef=.int .i64 (j:Nat):=by rw[hf1.2 48 (by decide)];exact t48
   have t49:=lz (h1.rd 14 49 _ rfl rfl rfl trivial);have hJ2:=hJe hJ h1.ext;clear h1 hf1 P1 us vs hJ t29 t30 t7 t47 t48 hm1;generalize NA B w w1=B1 at P2 us2 vs2;refine wpIn_seq ?_;by_cases hlv:j<V.length
   ·rw[decide_eq_true hlv] at t49
    refine wpIn_cond_true t49 (wpIn_skip ?_);have mV:V.getD j 0∈c.aH (p.getD 1 0) (q.getD 1 0):=by rw[hVe,bT hlv];exact List.getElem_mem hlv
    have gV:=Cat.cU.1 mV
    have iv:IntKind.i64.has (V.getD j 0):=by
     have:=kQ (n:=(V.getD j 0).toNat) (by omega)
     rwa [Int.toNat_of_nonneg gV.1] at this
    have hpJ:=L2 (c:=c) (p:=p) (q:=q) (u:=u) (j:=j) (by rw[hVe];exact hlv);rw[hVe] at hpJ;generalize hv:V.getD j 0=v at mV gV iv hpJ;refine wpIn_seq (wpIn_block (wpIn_seq ?_))
    refine mR (tr:=dv) dp [] (oL [.ee 1 (.v 10) (.v 12),.ld (.t 0),.a 6 1]) []
     (cu c p q [.int .i64 u,.int .i64 v,ints U,.int .i64 U.length,.int .i64 i,ints V,.int .i64 V.length,.int .i64 j,.dead,.dead,.dead])
     P2.hA P2.hg P2.sz (by simp[cu,dv]) (by decide) (P2.env (x:=[.int .i64 u,.dead,ints U,.int .i64 U.length,.int .i64 i,ints V,.int .i64 V.length,.int .i64 j,.dead,.dead,.dead]) ⟨cR s7 iu,aY,iO us2,cR s29 iU,cR s30 iI,iO vs2,cR s47 iV,cR s48 iJ,aY,aY,aY,trivial⟩)
     (by decide +kernel) (by decide +kernel) (by decide +kernel) ?_ ?_
    ·simp only[cu,cV]
     simp only[go_sem];exact⟨hlv,by rw[hv]⟩
    intro a2 w2 hf2 h2;have hm2:=hJl hJ2;have P3:=P2.ju hm2 (by decide +kernel) hf2 h2
    have us3:Rd w2 (NA B1 w1 w2) (a2.tmps.getD 28 undef) (ints U):=by
     rw[hf2.2 28 (by decide)];exact us2.mono (fun _ h=>.inl h) fun b hb=>h2.ext.same b (P2.lt b hb).1
    have vs3:Rd w2 (NA B1 w1 w2) (a2.tmps.getD 46 undef) (ints V):=by
     rw[hf2.2 46 (by decide)];exact vs2.mono (fun _ h=>.inl h) fun b hb=>h2.ext.same b (P2.lt b hb).1
    have r29:a2.tmps.getD 29 undef=.int .i64 U.length:=by rw[hf2.2 29 (by decide)];exact s29
    have r30:a2.tmps.getD 30 undef=.int .i64 (i:Nat):=by rw[hf2.2 30 (by decide)];exact s30
    have r7:a2.tmps.getD 7 undef=.int .i64 u:=by rw[hf2.2 7 (by decide)];exact s7
    have r47:a2.tmps.getD 47 undef=.int .i64 V.length:=by rw[hf2.2 47 (by decide)];exact s47
    have r48:a2.tmps.getD 48 undef=.int .i64 (j:Nat):=by rw[hf2.2 48 (by decide)];exact s48
    have r9:=lA (h2.rd 6 9 _ rfl rfl rfl trivial);have hJ3:=hJe hJ2 h2.ext;clear h2 hf2 P2 us2 vs2 hJ2 s29 s30 s7 s47 s48 hm2;generalize NA B1 w1 w2=B2 at P3 us3 vs3;refine wpIn_seq ?_;have hnu:=lb gU.1 gU.2.1;have hnv:=lb gV.1 gV.2.1;have rw1:=hc.iA gU.1 gU.2.1;have rw2:=hc.iA gp.1 gp.2
    refine Mp (tr:=dv) (nt:=92) dp 32 (ops':=bH 32 _) (K:=fun st=>fin [(15,31)] st=cu c p q [.int .i64 u,.int .i64 v,ints U,.int .i64 U.length,.int .i64 i,ints V,.int .i64 V.length,.int .i64 j,.dead,.dead,.bool (c.aG u (q.getD 2 0) == c.aG (p.getD 2 0) v)])
     (l:=[⟨none,.m 4⟩,⟨none,.ld (.v 1)⟩,⟨none,.dc (.t 1)⟩,⟨none,.fA 0 (.t 2)⟩,⟨none,.ld (.t 3)⟩,⟨none,.dc (.t 4)⟩,⟨none,.fA 11 (.t 5)⟩,⟨none,.ld (.t 6)⟩,⟨none,.m 5⟩,⟨none,.ee 1 (.t 7) (.t 8)⟩,⟨none,.ld (.t 9)⟩,⟨none,.ld (.v 3)⟩,⟨none,.ee 1 (.t 11) (.i 2)⟩,⟨none,.ld (.t 12)⟩,⟨none,.call 42 [(.t 0),(.t 10),(.t 13)]⟩,
       ⟨none,.m 4⟩,⟨none,.ld (.v 2)⟩,⟨none,.ee 1 (.t 16) (.i 2)⟩,⟨none,.ld (.t 17)⟩,⟨none,.ld (.v 1)⟩,⟨none,.dc (.t 19)⟩,⟨none,.fA 1 (.t 20)⟩,⟨none,.ld (.t 21)⟩,⟨none,.dc (.t 22)⟩,⟨none,.fA 11 (.t 23)⟩,⟨none,.ld (.t 24)⟩,⟨none,.m 6⟩,⟨none,.ee 1 (.t 25) (.t 26)⟩,⟨none,.ld (.t 27)⟩,⟨none,.call 42 [(.t 15),(.t 18),(.t 28)]⟩,⟨none,.bin .eql (.t 14) (.t 29)⟩,⟨none,.n 30⟩,
       ⟨some (31,true),.mv (.k (.bool true))⟩,⟨some (31,true),.mv (.k (.bool true))⟩,⟨some (31,true),.mv (.k (.bool true))⟩,⟨some (31,true),.mv (.k (.bool true))⟩,⟨some (31,true),.mv (.k (.bool true))⟩,⟨none,.mv (.k (.bool true))⟩]) (pre:=[15]) (post:=[(15,31)])
     (by decide +kernel) (by decide +kernel) (by decide +kernel) (by decide +kernel) (GW 32) (GV 32) (GY 32) (GX 32) (by decide +kernel) ?_
     (uk P3.hA P3.hg P3.sz (by simp[cu,dv]) (by decide) (rz (P3.env (x:=[.int .i64 u,.int .i64 v,ints U,.int .i64 U.length,.int .i64 i,ints V,.int .i64 V.length,.int .i64 j,.dead,.dead,.dead]) ⟨cR r7 iu,cR r9 iv,iO us3,cR r29 iU,cR r30 iI,iO vs3,cR r47 iV,cR r48 iJ,aY,aY,aY,trivial⟩))) ?_
     [[32,33,34,35,36,37],[32,34,33,35,36,37],[33,32,34,35,36,37],[33,34,32,35,36,37],[34,32,33,35,36,37],[34,33,32,35,36,37]] (by decide +kernel) ?_
    ·exact Hz (by decide +kernel)
    ·have ha:(aL c).iK=bN c.fr.length:=rfl
     have hal:(bN c.fr.length).length=c.fr.length:=dS;simp only[cu,cV];simp only[go_sem,ha,hnu,hal];refine⟨gU.1 |> fun h=>⟨h,gU.2.1⟩,by omega,l8 (bs:=[_,_,_]) (qv c u (q.getD 2 0) gU.1 (by omega) gq.1 (by omega)) rfl ⟨.inr ⟨5,_,rfl,rfl⟩,.inl rfl,.inl rfl,trivial⟩ (.inl rfl) ?_⟩;simp only[go_sem,ha,hnv,hal];refine⟨by omega,⟨gV.1,gV.2.1⟩,l8 (bs:=[_,_,_]) (qv c (p.getD 2 0) v gp.1 (by omega) gV.1 (by omega)) rfl ⟨.inr ⟨5,_,rfl,rfl⟩,.inl rfl,.inl rfl,trivial⟩ (.inl rfl) ?_⟩;simp only[go_sem];rfl
    ·intro R hR a' w' hfr hw
     have hm3:=hJl hJ3
     obtain⟨a'',⟨⟨-,st,hK,hB⟩,-⟩,hd,hsz,hsame⟩:=uE (k:=32) (fun⟨_,_,h⟩=>by cases h.1.1) R a' (fun i hi=>by
      simp only[List.mem_cons,List.not_mem_nil,or_false] at hR
      rcases hR with rfl | rfl | rfl | rfl | rfl | rfl<;>simp at hi<;>omega) hw
     have hR32:∀i∈R,32<=i:=fun i hi=>by
      simp only[List.mem_cons,List.not_mem_nil,or_false] at hR;rcases hR with rfl | rfl | rfl | rfl | rfl | rfl<;>simp at hi<;>omega
     have h84:∀t,t<84->a''.tmps.getD t undef=a'.tmps.getD t undef:=fun t ht=>hsame t fun i hi o ho=>G9 (k:=32) (m:=84) (by decide +kernel) (hR32 i hi) ht ho
     have A0:=tU (by decide) (hK▸hB)
     have A1:oS w2 (fun b=>B2 b\/b=kk) 92 dv a2.defers (cu c p q [.int .i64 u,.int .i64 v,ints U,.int .i64 U.length,.int .i64 i,ints V,.int .i64 V.length,.int .i64 j,.dead,.dead,.bool (c.aG u (q.getD 2 0) == c.aG (p.getD 2 0) v)]) a' w' :=
      ⟨A0.ext,hd.symm.trans A0.cG,hsz.symm.trans A0.size,fun j t d h1 h2 h3 h4=>by rw[<-h84 t (Fi h1)];exact A0.rd j t d h1 h2 h3 h4,fun j t d h1 h2 h3=>by rw[<-h84 t (Fi h1)];exact A0.own j t d h1 h2 h3⟩
     clear A0 hw hB hK h84 hsame hsz hd;have P4:=P3.ju hm3 (by decide +kernel) hfr A1
     have us4:Rd w' (NA B2 w2 w') (a'.tmps.getD 28 undef) (ints U):=by
      rw[hfr.2 28 (by decide)];exact us3.mono (fun _ h=>.inl h) fun b hb=>A1.ext.same b (P3.lt b hb).1
     have vs4:Rd w' (NA B2 w2 w') (a'.tmps.getD 46 undef) (ints V):=by
      rw[hfr.2 46 (by decide)];exact vs3.mono (fun _ h=>.inl h) fun b hb=>A1.ext.same b (P3.lt b hb).1
     have q29:a'.tmps.getD 29 undef=.int .i64 U.length:=by rw[hfr.2 29 (by decide)];exact r29
     have q30:a'.tmps.getD 30 undef=.int .i64 (i:Nat):=by rw[hfr.2 30 (by decide)];exact r30
     have q7:a'.tmps.getD 7 undef=.int .i64 u:=by rw[hfr.2 7 (by decide)];exact r7
     have q9:a'.tmps.getD 9 undef=.int .i64 v:=by rw[hfr.2 9 (by decide)];exact r9
     have q47:a'.tmps.getD 47 undef=.int .i64 V.length:=by rw[hfr.2 47 (by decide)];exact r47
     have q48:a'.tmps.getD 48 undef=.int .i64 (j:Nat):=by rw[hfr.2 48 (by decide)];exact r48
     have t83:=lz (A1.rd 15 83 _ rfl rfl rfl trivial);have hJ4:=hJe hJ3 A1.ext;clear A1 hfr P3 us3 vs3 r29 r30 r7 r9 r47 r48 hJ3 hm3;generalize NA B2 w2 w'=B3 at P4 us4 vs4;generalize hQQ:Exit.then _ _=QQ
     have cont:∀(a3:Act)(w3:World)(B M:Nat->Prop),PA c p q kk (.func (.yield l) #[] #[]) (.pointer (some ⟨x,0,none⟩)) pb qb (.pointer (some ⟨fb,fo+5,none⟩)) B M a3 w3->J (ez c p q i++eQ c p q u (j+1)) M w3->Rd w3 B (a3.tmps.getD 28 undef) (ints U)->Rd w3 B (a3.tmps.getD 46 undef) (ints V)->fc a' a3->a3.tmps.getD 89 undef=.bool false->QQ .normal a3 w3:=by
      intro a3 w3 B M P5 hJ5 us5 vs5 hk t89;have h29:=(hk.2.2 29 (by omega)).trans q29;have h30:=(hk.2.2 30 (by omega)).trans q30;have h7:=(hk.2.2 7 (by omega)).trans q7;have h47:=(hk.2.2 47 (by omega)).trans q47;have h48:=(hk.2.2 48 (by omega)).trans q48;rw[<-hQQ];simp only[Exit.then];refine wpIn_cond_false t89 (wpIn_skip ?_);simp only[Exit.then,Exit.inBlock]
      refine mR (tr:=dv) dp [] (oL [.bin .add (.v 12) (.i 1),.a 12 0]) []
       (cu c p q [.dead,.dead,.dead,.dead,.dead,.dead,.dead,.int .i64 ((j+1:Nat):Int),.dead,.dead,.dead])
       P5.hA P5.hg P5.sz (by simp[cu,dv]) (by decide) (P5.env (x:=[.dead,.dead,.dead,.dead,.dead,.dead,.dead,.int .i64 j,.dead,.dead,.dead]) ⟨aY,aY,aY,aY,aY,aY,aY,cR h48 iJ,aY,aY,aY,trivial⟩)
       (by decide +kernel) (by decide +kernel) (by decide +kernel) ?_ ?_
      ·simp only[cu,cV]
       simp only[go_sem];rw[aU hlv (by simp only[maxLen];omega)]
      intro a4 w4 hf4 h4;have P6:=P5.ju (hJl hJ5) (by decide +kernel) hf4 h4;refine⟨V.length-(j+1),by omega,_,M,j+1,P6,hJe hJ5 h4.ext,?_,by rw[hf4.2 29 (by decide)];exact h29,by rw[hf4.2 30 (by decide)];exact h30,by rw[hf4.2 7 (by decide)];exact h7,?_,by rw[hf4.2 47 (by decide)];exact h47,lA (h4.rd 12 48 _ rfl rfl rfl trivial),by omega,rfl⟩
      ·rw[hf4.2 28 (by decide)];exact us5.mono (fun _ h=>.inl h) fun b hb=>h4.ext.same b (P5.lt b hb).1
      ·rw[hf4.2 46 (by decide)];exact vs5.mono (fun _ h=>.inl h) fun b hb=>h4.ext.same b (P5.lt b hb).1
     have stop:∀(a3:Act)(w3:World),a3.defers=[]->Jx w3->a3.tmps.getD 89 undef=.bool true->QQ .normal a3 w3:=by
      intro a3 w3 hd hx t89;rw[<-hQQ];simp only[Exit.then];refine wpIn_cond_true t89 (wpIn_ret ?_);simp only[Exit.then,Exit.inBlock];exact bodyPost_ret (results_none rfl _ _ _) hd ⟨⟨_,rfl⟩,.inr hx⟩
     clear hQQ;refine H0 (l:=l) rfl ⟨_,rfl,rfl,rfl,rfl⟩ ⟨_,rfl,rfl,rfl,rfl⟩ ⟨_,rfl,rfl,rfl,rfl⟩ ⟨_,rfl,rfl,rfl,rfl⟩ ⟨_,rfl,rfl,rfl,rfl⟩ ⟨_,rfl,rfl,rfl,rfl⟩ P4.sz t83 P4.t0 q7 q9 (fun hb a3 hk t89=>?_) (fun hb=>?_) R hR
     ·refine cont a3 w' B3 M (P4.bu hk) ?_ (by rw[hk.2.2 28 (by omega)];exact us4) (by rw[hk.2.2 46 (by omega)];exact vs4) hk t89
      rw[hpJ,hb,if_neg (by decide),List.append_nil];exact hJ4
     ·have hmem:ez c p q i++eQ c p q u j++[(u,v)] <+: fm c p q:=by
       have e:ez c p q i++eQ c p q u j++[(u,v)]=ez c p q i++eQ c p q u (j+1):=by rw[hpJ,hb,if_pos rfl,<-List.append_assoc]
       have h0:=LY (c:=c) (p:=p) (q:=q) (i:=i) (by rw[hUe];exact hlt') (j+1);rw[hUe,hu] at h0;rw[e];exact h0
      obtain⟨fn,ts,bY,body,y1,y2⟩:=hY _ M w' (u,v) (n-1) hJ4 hmem;refine⟨fn,ts,bY,body,y1,y2.mono ?_⟩;rintro e W' (⟨rfl,M',hJ5,hr⟩ | ⟨rfl,hx⟩)
      ·refine⟨true,rfl,fun a3 hk t89=>?_⟩
       obtain⟨N,hN,hNk⟩:=hJk hJ5;have P5:=P4.round hr hN hNk;refine cont a3 W' _ M' (P5.bu hk) ?_ ?_ ?_ hk t89
       ·rw[hpJ,hb,if_pos rfl,<-List.append_assoc]
        exact hJ5
       ·rw[hk.2.2 28 (by omega)]
        exact us4.mono (fun _ h=>.inl h) fun b hb=>hr.same b (P4.lt b hb).1 (P4.dj b hb) (P4.lt b hb).2
       ·rw[hk.2.2 46 (by omega)]
        exact vs4.mono (fun _ h=>.inl h) fun b hb=>hr.same b (P4.lt b hb).1 (P4.dj b hb) (P4.lt b hb).2
      ·exact⟨false,rfl,fun a3 hk t89=>stop a3 W' (hk.2.1.trans P4.df) hx t89⟩
   ·rw[decide_eq_false hlv] at t49
    refine wpIn_cond_false t49 (wpIn_exit ?_);obtain rfl:j=V.length:=by omega
    simp only[Exit.then,Exit.inBlock,if_true]
    refine mR (tr:=dv) dp [] (oL [.bin .add (.v 9) (.i 1),.a 9 0]) []
     (cu c p q [.dead,.dead,ints U,.int .i64 U.length,.int .i64 ((i+1:Nat):Int),.dead,.dead,.dead,.dead,.dead,.dead])
     P2.hA P2.hg P2.sz (by simp[cu,dv]) (by decide) (P2.env (x:=[.dead,.dead,ints U,.int .i64 U.length,.int .i64 i,.dead,.dead,.dead,.dead,.dead,.dead]) ⟨aY,aY,iO us2,cR s29 iU,cR s30 iI,aY,aY,aY,aY,aY,aY,trivial⟩)
     (by decide +kernel) (by decide +kernel) (by decide +kernel) ?_ ?_
    ·simp only[cu,cV]
     simp only[go_sem];rw[aU hlt' (by simp only[maxLen];omega)]
    intro a2 w2 hf2 h2;have hm2:=hJl hJ2;have P3:=P2.ju hm2 (by decide +kernel) hf2 h2;refine⟨U.length-(i+1),by omega,_,M,i+1,P3,?_,?_,by rw[hf2.2 29 (by decide)];exact s29,lA (h2.rd 9 30 _ rfl rfl rfl trivial),by omega,rfl⟩
    ·have:=hJe hJ2 h2.ext
     have e:ez c p q (i+1)=ez c p q i++eQ c p q u V.length:=by
      rw[CM (by rw[hUe];exact hlt'),hUe,hu,hVe]
     rw[e];exact this
    ·rw[hf2.2 28 (by decide)];exact us2.mono (fun _ h=>.inl h) fun b hb=>h2.ext.same b (P2.lt b hb).1
  ·rw[decide_eq_false hlt'] at t31
   refine wpIn_cond_false t31 (wpIn_exit ?_);obtain rfl:i=U.length:=by omega
   simp only[Exit.then,Exit.inBlock,if_true];exact bodyPost_end (results_none rfl _ _ _) P2.df ⟨⟨_,rfl⟩,.inl ⟨M,by rw[<-CL,hUe];exact hJ2⟩⟩
 refine hs _ ⟨⟨hgl,hlt,hkl,⟨x,rfl,hBx,hcx⟩,⟨_,f2,c1,c2,r1,r2⟩,hpb,hqb,Mc r1 5⟩,rfl,rfl,rfl,rfl,rfl,rfl,rfl,hdj⟩
end Go.D3
