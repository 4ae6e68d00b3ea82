/- CONTRACTS: a map of schemas after another, the program's side. -/
import Derived.Test.YtpnchponfnbmiaaGreatDoorGAP
import Derived.Test.YtpnchponfnbmiaaGreatDoorGAX
import Derived.Test.YtpnchponfnbmiaaGreatDoorGBM
namespace Go.D3
open Go
set_option maxHeartbeats 4000000
set_option maxRecDepth 100000
theorem tL(m:Smp):(eA m=.ah [.aP,.int .i64 3]/\(m.src.aU=none\/m.av.aU=none))\/∃a b,eA m=.ah [dR m a b,.int .i64 0]/\m.src.aU=some a/\m.av.aU=some b:=by
 unfold eA;cases ha:m.src.aU with
 | none=>exact .inl ⟨rfl,.inl rfl⟩
 | some a =>
  cases hb:m.av.aU with
  | none=>exact .inl ⟨rfl,.inr rfl⟩
  | some b=>exact .inr ⟨a,b,rfl,rfl,rfl⟩
def qt:List Nat:=[0,1,4,5,2,3,6,7,8,9,10,12,61,62,63]
def rU:Sl:=ae Go.Proofs.Tryz.types Go.Proofs.Tryz.f16 qt []
theorem uc:aD Go.Proofs.Tryz.prog Go.Proofs.Tryz.f16 qt rU 2=true:=by decide +kernel
theorem Hh{m n:Smp}(h:(m.okB&&n.okB)=false):al Go.Proofs.Tryz.prog 16 [.v (Smp.d m),.v (Smp.d n)] (.ah [Smp.d Smp.zero,.int .i64 1]):=by
 refine aC Go.Proofs.Tryz.func16 uc ?_;unfold rU ae qt;simp only[go_sem];refine af (mH m) rfl (.inl rfl) ?_;simp only[go_sem];refine bt (fun _=>mH n) rfl (fun _=>rfl) (.inl rfl) ?_;simp only[go_sem];refine⟨fun h'=>by simpa using h',fun _=>rfl,fun h'=>?_⟩;rw[Bool.and_eq_false_iff] at h;rcases h with h | h<;>simp[h] at h'
theorem Hi{m n:Smp}(hm:m.okB=true)(hn:n.okB=true)(h:eA m=.ah [.aP,.int .i64 3]\/eA n=.ah [.aP,.int .i64 3]):al Go.Proofs.Tryz.prog 16 [.v (Smp.d m),.v (Smp.d n)] (.ah [Smp.d Smp.zero,.int .i64 3]):=by
 have p1:=mH m;have p2:=mH n;rw[hm] at p1;rw[hn] at p2;have hmo:=Smp.iU hm;have hno:=Smp.iU hn;have c1:=qb m hmo.s hmo.t;have c2:=qb n hno.s hno.t;refine aC Go.Proofs.Tryz.func16 uc ?_;unfold rU ae qt;simp only[go_sem];refine af p1 rfl (.inl rfl) ?_;simp only[go_sem];refine bt (fun _=>p2) rfl (fun h=>h) (.inl rfl) ?_;simp only[go_sem];rcases tL m with⟨h1,_⟩ | ⟨a,b,h1,_,_⟩<;>rcases tL n with⟨h2,_⟩ | ⟨c,d,h2,_,_⟩<;>rw[h1] at c1<;>rw[h2] at c2
 ·refine af c1 rfl (.inr trivial) ?_
  simp(config:={ maxSteps:=4000000 }) only[go_sem];refine af c2 rfl (.inr trivial) ?_;simp(config:={ maxSteps:=4000000 }) only[go_sem];refine⟨fun h=>(by first | rfl | cases h),fun _=>rfl,fun h=>(by cases h)⟩
 ·refine af c1 rfl (.inr trivial) ?_
  simp(config:={ maxSteps:=4000000 }) only[go_sem];unfold dR au.pD at c2;refine af c2 rfl (.inr trivial) ?_;simp(config:={ maxSteps:=4000000 }) only[go_sem];refine⟨fun h=>(by first | rfl | cases h),fun _=>rfl,fun h=>(by cases h)⟩
 ·unfold dR au.pD at c1
  refine af c1 rfl (.inr trivial) ?_;simp(config:={ maxSteps:=4000000 }) only[go_sem];refine af c2 rfl (.inr trivial) ?_;simp(config:={ maxSteps:=4000000 }) only[go_sem];refine⟨fun h=>(by first | rfl | cases h),fun _=>rfl,fun h=>(by cases h)⟩
 ·rw[h1,h2] at h
  exfalso;rcases h with h | h<;>(unfold dR at h;injection h with h;injection h with h;cases h)
theorem T0{m n:Smp}(hm:m.okB=true)(hn:n.okB=true){a b c d:au}(h1:m.src.aU=some a)(h2:m.av.aU=some b)(h3:n.src.aU=some c)(h4:n.av.aU=some d)(h:(m.dK b&&n.dK d&&ja m.av n.src)=false) :
  al Go.Proofs.Tryz.prog 16 [.v (Smp.d m),.v (Smp.d n)] (.ah [Smp.d Smp.zero,.int .i64 5]):=by
 have p1:=mH m;have p2:=mH n;rw[hm] at p1;rw[hn] at p2;have hmo:=Smp.iU hm;have hno:=Smp.iU hn;have c1:=qb m hmo.s hmo.t;have c2:=qb n hno.s hno.t;rw[show eA m=.ah [dR m a b,.int .i64 0] by unfold eA;rw[h1,h2]] at c1;rw[show eA n=.ah [dR n c d,.int .i64 0] by unfold eA;rw[h3,h4]] at c2;have r1:=uF hmo a (iv hmo.t h2);have r2:=uF hno c (iv hno.t h4);have p3:=GR (ve hmo.t) (ve hno.s);unfold dR au.pD at c1 c2 r1 r2;refine aC Go.Proofs.Tryz.func16 uc ?_;unfold rU ae qt;simp only[go_sem];refine af p1 rfl (.inl rfl) ?_;simp only[go_sem];refine bt (fun _=>p2) rfl (fun h=>h) (.inl rfl) ?_;simp only[go_sem];refine af c1 rfl (.inr trivial) ?_;simp(config:={ maxSteps:=4000000 }) only[go_sem];refine af c2 rfl (.inr trivial) ?_;simp(config:={ maxSteps:=4000000 }) only[go_sem];refine⟨fun _=>rfl,fun h=>(by cases h),fun _=>?_⟩;refine af r1 rfl (.inl rfl) ?_;simp(config:={ maxSteps:=4000000 }) only[go_sem];refine bt (fun _=>r2) rfl (fun h=>h) (.inl rfl) ?_;simp(config:={ maxSteps:=4000000 }) only[go_sem];refine⟨fun h=>by simpa using h,?_⟩;refine vX (bs:=[_,_]) (fun _=>p3) rfl ⟨.inr ⟨5,_,rfl,rfl⟩,.inr ⟨5,_,rfl,rfl⟩,trivial⟩ (fun h=>h) (.inl rfl) ?_;simp(config:={ maxSteps:=4000000 }) only[go_sem];refine⟨fun h'=>by simpa using h',fun _=>rfl,fun h'=>?_⟩;exfalso;simp only[Bool.or_eq_false_iff,Bool.not_eq_false'] at h';rw[h'.1.1,h'.1.2,h'.2] at h;cases h
theorem R9{l:List Pth}:stripL [U dJ none (l.map some)]=[U Pth.d Pth.zero l]:=by
 show[(U dJ none (l.map some)).strip]=_;rw[ux]
theorem T1{m n:Smp}(hm:m.okB=true)(hn:n.okB=true){a b d:au}(h1:m.src.aU=some a)(h2:m.av.aU=some b)(e:m.av=n.src)(h4:n.av.aU=some d)(hr1:m.dK b=true)(hr2:n.dK d=true)(hcm:Smp.cost m<=1048576)(hcn:Smp.cost n<=1048576) :
  al Go.Proofs.Tryz.prog 16 [.v (Smp.d m),.v (Smp.d n)] (.ah [Smp.d ⟨m.src,n.av,fW m.aX n.aX,n.fj b d m.aL⟩,.int .i64 0]):=by
 have h3:n.src.aU=some b:=by rw[<-e];exact h2
 have p1:=mH m;have p2:=mH n;rw[hm] at p1;rw[hn] at p2;have hmo:=Smp.iU hm;have hno:=Smp.iU hn;have c1:=qb m hmo.s hmo.t;have c2:=qb n hno.s hno.t;rw[show eA m=.ah [dR m a b,.int .i64 0] by unfold eA;rw[h1,h2]] at c1;rw[show eA n=.ah [dR n b d,.int .i64 0] by unfold eA;rw[h3,h4]] at c2;have r1:=uF hmo a (iv hmo.t h2);have r2:=uF hno b (iv hno.t h4);rw[hr1] at r1;rw[hr2] at r2;have p3:=GR (ve hmo.t) (ve hno.s);rw[<-oz e] at p3;unfold Smp.cost at hcm hcn;have p4:=GJ m.src (by omega);have p5:=GJ n.av (by omega)
 have p6:=Tq m.aX n.aX (by omega) fun i hi=>by
  have:=hmo.r i hi;have hn':=hno.n;rw[e] at this;omega
 have hel:m.aL.length<=8:=by
  have h1:=hmo.e;have h2:=(fg (eB hmo.s).1).f8;omega
 have hal:∀l,(n.fj b d l).length=l.length:=fun l=>List.length_map _
 have hco:b7 Pth.cost (n.fj b d m.aL)<=1048576:=by
  have key:∀l:List Pth,(∀p∈l,p.ed.length<=6)->((l.map Pth.cost).sum)<=l.length*6:=fun l=>by
   induction l with
   | nil=>intro _;simp
   | cons x l ih =>
    intro h;have:=ih fun p hp=>h p (List.mem_cons_of_mem _ hp)
    have:=h x List.mem_cons_self;simp only[List.map_cons,List.sum_cons,List.length_cons];unfold Pth.cost at *;omega
  have:=key (n.fj b d m.aL) fun p hp=>by
   obtain⟨q,hq,rfl⟩:=List.mem_map.1 hp;obtain⟨i,hi,rfl⟩:=List.getElem_of_mem hq;obtain⟨_,hp⟩:=hmo.p i hi;obtain⟨_,_,k3,k4⟩:=Smp.vb hmo hno e h2 h4 hp;rw[aO hi] at k3 k4;obtain⟨y,hy⟩:=(rN hno.t h4).1 _ (cH (d:=Pth.zero) (show(n.lF b d m.aL[i]).toNat<d.ls.length by omega));exact yp hy
  rw[hal] at this;unfold b7;rw[hal];omega
 have p7:=yM (n.fj b d m.aL) hco;have q1:=fun {p y}(hp:m.av.aB p=some y)=>qd (iv hmo.t h2) (U Pth.d Pth.zero b.ls) (U Pth.d Pth.zero b.ls) hp
 have q2:=fun {p y}(hp:n.src.aB p=some y)=>GN hno b (iv hno.t h4) hp
 unfold dR au.pD at c1 c2 r1 r2 q2;refine aC Go.Proofs.Tryz.func16 uc ?_;unfold rU ae qt;simp only[go_sem];refine af p1 rfl (.inl rfl) ?_;simp only[go_sem];refine bt (fun _=>p2) rfl (fun h=>h) (.inl rfl) ?_;simp only[go_sem];refine af c1 rfl (.inr trivial) ?_;simp(config:={ maxSteps:=4000000 }) only[go_sem];refine af c2 rfl (.inr trivial) ?_;simp(config:={ maxSteps:=4000000 }) only[go_sem];refine⟨fun _=>rfl,fun h=>(by cases h),fun _=>?_⟩;refine af r1 rfl (.inl rfl) ?_;simp(config:={ maxSteps:=4000000 }) only[go_sem];refine bt (fun _=>r2) rfl (fun h=>h) (.inl rfl) ?_;simp(config:={ maxSteps:=4000000 }) only[go_sem];refine vX (bs:=[_,_]) (fun _=>p3) rfl ⟨.inr ⟨5,_,rfl,rfl⟩,.inr ⟨5,_,rfl,rfl⟩,trivial⟩ (fun h=>h) (.inl rfl) ?_;simp(config:={ maxSteps:=4000000 }) only[go_sem];refine gY (bs:=[_]) p4 rfl ⟨.inr ⟨5,_,rfl,rfl⟩,trivial⟩ (.inl (pN _)) ?_;simp(config:={ maxSteps:=4000000 }) only[go_sem];refine gY (bs:=[_]) p5 rfl ⟨.inr ⟨5,_,rfl,rfl⟩,trivial⟩ (.inl (pN _)) ?_;simp(config:={ maxSteps:=4000000 }) only[go_sem];refine af p6 rfl (.inl (bJ _)) ?_;simp(config:={ maxSteps:=4000000 }) only[go_sem];refine aJ [11] (fun(i:Nat)=>[(10,.box [.int .i64 m.src.nd,.o (ints m.src.fr),.o (ints m.src.to),.o (U Pth.d Pth.zero m.src.lf),.o (U Pth.d Pth.zero m.src.rt),.int .i64 n.av.nd,.o (ints n.av.fr),.o (ints n.av.to),.o (U Pth.d Pth.zero n.av.lf),.o (U Pth.d Pth.zero n.av.rt),.o (ints (fW m.aX n.aX)),.o (U dJ none ((n.fj b d (m.aL.take i)).map some))]),(14,.int .i64 i)]) (fun i=>i<=m.aL.length) (fun i=>m.aL.length-i) 0 (by simp only[go_sem];rfl) (Nat.zero_le _) ?_ ?_
 ·rfl
 intro i hi;simp(config:={ maxSteps:=4000000 }) only[go_sem];refine⟨fun h3=>?_,fun h3=>?_⟩
 ·obtain⟨_,hp⟩:=hmo.p i h3
  obtain⟨⟨k1,k2⟩,⟨w,hw⟩,k3,k4⟩:=Smp.vb hmo hno e h2 h4 hp;refine⟨h3,af (qd (iv hmo.t h2) _ _ hp) rfl (.inl rfl) ?_⟩;simp(config:={ maxSteps:=4000000 }) only[go_sem];refine⟨⟨k1,k2⟩,af (q2 hw) rfl (.inl rfl) ?_⟩;simp(config:={ maxSteps:=4000000 }) only[go_sem];refine⟨⟨k3,k4⟩,rfl,by rw[List.length_map,hal,List.length_take];omega,i+1,h3,by omega,?_⟩;rw[bT h3 Pth.zero,aH h3 (by simp only[maxLen];omega)];unfold Smp.fj;simp only[List.map_append];rfl
 ·rw[show i=m.aL.length by omega,List.take_length]
  refine CB (xs:=[_]) p7 rfl R9 (.inl (gq jA _)) ?_;simp(config:={ maxSteps:=4000000 }) only[go_sem]
theorem Tg(m n:Smp)(hcm:Smp.cost m<=1048576)(hcn:Smp.cost n<=1048576):al Go.Proofs.Tryz.prog 16 [.v (Smp.d m),.v (Smp.d n)] (.ah [Smp.d (m.lG n).1,.int .i64 (m.lG n).2]):=by
 unfold Smp.lG;by_cases hm:m.okB=true
 rotate_left
 ·rw[if_neg fun h=>hm h.1]
  exact Hh (by rw[Bool.not_eq_true] at hm;rw[hm];rfl)
 by_cases hn:n.okB=true
 rotate_left
 ·rw[if_neg fun h=>hn h.2]
  exact Hh (by rw[Bool.not_eq_true] at hn;rw[hn,Bool.and_false])
 rw[if_pos ⟨hm,hn⟩];rcases tL m with⟨e1,e2⟩ | ⟨a,b,e1,ha,hb⟩
 ·have:=Hi hm hn (.inl e1)
  rcases e2 with e2 | e2
  ·rw[e2];exact this
  ·rw[e2];cases m.src.aU<;>exact this
 rcases tL n with⟨e3,e4⟩ | ⟨c,d,e3,hc,hd⟩
 ·have:=Hi hm hn (.inr e3)
  rw[ha,hb];rcases e4 with e4 | e4
  ·rw[e4];exact this
  ·rw[e4];cases n.src.aU<;>exact this
 rw[ha,hb,hc,hd];by_cases h:(m.dK b&&n.dK d&&ja m.av n.src)=true
 ·simp only[if_pos h]
  simp only[Bool.and_eq_true] at h
  have e:m.av=n.src:=by
   refine Classical.byContradiction fun hne=>?_
   rw[<-lA hne] at h;cases h.2
  exact T1 hm hn ha hb e hd h.1.1 h.1.2 hcm hcn
 ·simp only[if_neg h]
  exact T0 hm hn ha hb hc hd (by rwa [Bool.not_eq_true] at h)
end Go.D3
