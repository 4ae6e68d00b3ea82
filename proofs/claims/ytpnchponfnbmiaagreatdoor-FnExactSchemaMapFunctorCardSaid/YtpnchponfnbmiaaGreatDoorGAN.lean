/- WHAT THE ROW OF THE FUNCTORS OF MAPS OF SCHEMAS LISTS (the handle of the type 'error'), as contracts take it. -/
import Derived.Test.YtpnchponfnbmiaaGreatDoorGAM
import Derived.Test.YtpnchponfnbmiaaGreatDoorGAF
import Derived.Test.YtpnchponfnbmiaaGreatDoorGAH
import Derived.Test.YtpnchponfnbmiaaGreatDoorHG
import Derived.Test.YtpnchponfnbmiaaGreatDoorRows
import Derived.LaidHandle
import Derived.Stop.Joined
import Derived.Shelf.Vars
import Derived.LaidMore
namespace Go.D3
open Go
set_option maxHeartbeats 4000000
set_option maxRecDepth 100000
def yG:List Nat:=[0,2]
def FA:Sl:=ae Go.Proofs.Tryz.types Go.Proofs.Tryz.f111 yG []
theorem Nh:aD Go.Proofs.Tryz.prog Go.Proofs.Tryz.f111 yG FA 1=true:=by decide +kernel
theorem EY(a:ai)(hs:ai.cost a<=1048576):al Go.Proofs.Tryz.prog 111 [.v (.ptr a.cells)] (ai.d a):=by
 unfold ai.cost at hs;refine aA Go.Proofs.Tryz.func111 Nh ?_;unfold FA ae yG;simp only[go_sem];refine ak (jl a.fr (by omega)) rfl (.inl (bL _)) ?_;simp only[go_sem];refine ak (jl a.to (by omega)) rfl (.inl (bL _)) ?_;simp only[go_sem];refine ak (jl a.aL (by omega)) rfl (.inl (bL _)) ?_;simp only[go_sem];refine ak (Q2 a.co (by omega)) rfl (.inl (qI _)) ?_;simp only[go_sem]
 all_goals rfl
def y8:List Nat:=[0,1,2,3,8]
def FZ:Sl:=ae Go.Proofs.Tryz.types Go.Proofs.Tryz.f77 y8 []
theorem NH:aD Go.Proofs.Tryz.prog Go.Proofs.Tryz.f77 y8 FZ 4=true:=by decide +kernel
theorem Q3(c d:ai)(o f:List Int)(h1:ai.cost c<=1048576)(h2:ai.cost d<=1048576)(h3:o.length<=1048576)(h4:f.length<=1048576){lc ld:List D}(hlc:lc.take 5=c.cells)(hld:ld.take 5=d.cells):al Go.Proofs.Tryz.prog 77 [.v (.ptr lc),.v (.ptr ld),.v (ints o),.v (ints f)] (a6.d ⟨c,d,o,f⟩):=by
 refine aA Go.Proofs.Tryz.func77 NH ?_;unfold FZ ae y8;simp only[go_sem];refine gJ (bs:=[_]) (EY c h1) rfl ⟨.inr ⟨5,_,rfl,by rw[hlc]⟩,trivial⟩ (.inl (sV _)) ?_;simp only[go_sem];refine gJ (bs:=[_]) (EY d h2) rfl ⟨.inr ⟨5,_,rfl,by rw[hld]⟩,trivial⟩ (.inl (sV _)) ?_;simp only[go_sem];refine ak (jl o h3) rfl (.inl (bL _)) ?_;simp only[go_sem];refine ak (jl f h4) rfl (.inl (bL _)) ?_;simp only[go_sem]
 all_goals rfl
theorem M7(o:Option Int):(gN o).bd=true:=by cases o<;>rfl
def yN:List Nat:=[0,2,3,4,5,6,62,63,64]
def FH:Sl:=ae Go.Proofs.Tryz.types Go.Proofs.Tryz.f49 yN []
theorem Np:aD Go.Proofs.Tryz.prog Go.Proofs.Tryz.f49 yN FH 1=true:=by decide +kernel
theorem QU(m:Smp):al Go.Proofs.Tryz.prog 49 [.v (.ptr m.cells)] (.bool m.okB):=by
 refine eI fun hw=>?_
 simp only[c7,Smp.cells,D.dx,gh,eL] at hw;refine aA Go.Proofs.Tryz.func49 Np ?_;unfold FH ae yN;simp only[go_sem];refine gJ (bs:=[_]) (E0 m.src) rfl ⟨.inr ⟨5,_,rfl,rfl⟩,trivial⟩ (.inl rfl) ?_;simp only[go_sem];refine Jr (bs:=[_]) (fun _=>E0 m.aJ) rfl ⟨.inr ⟨5,_,rfl,rfl⟩,trivial⟩ (fun h=>h) (.inl rfl) ?_;simp only[go_sem];refine⟨(fun h=>by simp only[Bool.not_eq_false'] at h|-;exact h),(fun h=>by simp only[Bool.or_eq_false_iff,Bool.and_eq_true,Bool.not_eq_false'] at h|-;exact h),?_⟩;refine bO (fun h=>pE m.aJ.nd m.bq ?_) rfl (fun h=>h) (.inl rfl) ?_
 ·simp only[Bool.and_eq_true] at h
  exact(ga (fg h.1.2).1).n0
 simp only[go_sem];refine⟨(fun h=>by simp only[Bool.or_eq_false_iff,Bool.and_eq_true,Bool.not_eq_true',Bool.not_eq_false'] at h|-;exact h),(fun h=>by simp only[Bool.or_eq_false_iff,Bool.and_eq_true,Bool.not_eq_true',Bool.not_eq_false'] at h|-;exact h),fun h1=>?_,fun h1=>?_⟩
 ·cases hb:m.okB with
  | false=>rfl
  | true =>
   simp only[Smp.okB,Bool.and_eq_true,beq_iff_eq] at hb;obtain⟨⟨⟨⟨⟨b1,b2⟩,b3⟩,b4⟩,b5⟩,_⟩:=hb;rw[b1,b2,b3,b4,b5] at h1;simp at h1
 simp only[Bool.or_eq_false_iff,Bool.not_eq_false',bne_eq_false_iff_eq] at h1;obtain⟨⟨⟨⟨b1,b2⟩,b3⟩,b4⟩,b5⟩:=h1;have hss:=ga (fg b1).1;have hts:=ga (fg b2).1;have hto:=hss.to;have hel:m.bh.length=m.src.fr.length:=by omega
 have hok:m.okB=ca m.bh.length m.gp:=by
  unfold Smp.okB;rw[b1,b2,b3,b4,hel];simp
 refine aI [2,3,4,5] (fun(e:Nat)=>[(8,.int .i64 e)]) (fun e=>e<=m.bh.length/\ca e m.gp=true) (fun e=>m.bh.length-e) 0 (by simp only[go_sem];rfl) ⟨Nat.zero_le _,rfl⟩ rfl ?_;rintro e ⟨he,ha⟩;simp only[go_sem];refine⟨fun h2=>⟨h2,?_⟩,fun h2=>?_⟩
 ·refine gJ (bs:=[_,_]) (mc m.aJ (m.bh.getD e Pth.zero) hts.to hts.n0) rfl ⟨.inr ⟨5,_,rfl,rfl⟩,.inl rfl,trivial⟩ (.inl (M7 _)) ?_
  have hfr:=gw hss.fr (show e<m.src.fr.length by omega);have htr:=gw hss.yE (show e<m.src.to.length by omega);have hwe:=aH h2 (show m.bh.length<=maxLen by have:=hss.f8;simp only[maxLen];omega);have hstop:m.gp e=false->false=m.okB:=fun hx=>by rw[hok,mH h2 hx]
  cases hE:m.aJ.aF (m.bh.getD e Pth.zero) with
  | none =>
   simp only[gN];simp only[go_sem];exact hstop (by unfold Smp.gp;rw[hE];simp)
  | some y =>
   simp only[gN];simp only[go_sem];refine⟨by omega,⟨hfr.1,by omega⟩,fun h=>⟨h,by omega⟩,fun h=>⟨h,htr.1,by omega⟩,fun h=>by rw[h];rfl,fun h=>hstop ?_,fun h=>⟨e+1,⟨h2,jx ha ?_⟩,by omega,by rw[hwe]⟩⟩
   ·unfold Smp.gp
    rw[hE];simp only[Bool.or_eq_true,bne_iff_ne] at h;simp only[Bool.and_eq_false_iff,beq_eq_false_iff_ne,ne_eq,Option.some.injEq];exact h
   ·unfold Smp.gp
    rw[hE];simp only[Bool.or_eq_false_iff,bne_eq_false_iff_eq] at h;rw[h.1,h.2];simp
 ·rw[hok,show m.bh.length=e by omega,ha]
def dh(m:Smp)(a b:au):D:=.ptr [.ptr m.cells,a.pD m.src,b.pD m.aJ]
noncomputable def iB(m:Smp):D:=match m.src.bn with
 | none=>.af [.aN,.int .i64 3]
 | some a=>match m.aJ.bn with
  | none=>.af [.aN,.int .i64 3]
  | some b=>.af [dh m a b,.int .i64 0]
theorem D6{s:Sch}{x:au}:(x.pD s).strip=x.pD s:=by
 show D.ptr [(D.ptr s.cells).strip,_,(ints x.c.fr).strip,(ints x.c.to).strip,(ints x.c.aL).strip,(aO x.c.co).strip,(ints x.ed).strip,(U Pth.d Pth.zero x.ls).strip]=_;rw[show(D.ptr s.cells).strip=D.ptr s.cells from x9,oc,pO,dj,dj,dj,dj];rfl
theorem Tb{m:Smp}:(D.ptr m.cells).strip=.ptr m.cells:=by
 show D.ptr [_,(ints m.src.fr).strip,(ints m.src.to).strip,(U Pth.d Pth.zero m.src.lf).strip,(U Pth.d Pth.zero m.src.rt).strip,_,(ints m.aJ.fr).strip,(ints m.aJ.to).strip,(U Pth.d Pth.zero m.aJ.lf).strip,(U Pth.d Pth.zero m.aJ.rt).strip,(ints m.bq).strip,(U Pth.d Pth.zero m.bh).strip]=_;simp only[dj,oc];rfl
theorem Df{m:Smp}{a b:au}:(dh m a b).strip=dh m a b:=by
 show D.ptr [(D.ptr m.cells).strip,(a.pD m.src).strip,(b.pD m.aJ).strip]=_;rw[Tb,D6,D6];rfl
def rq:List Nat:=[0,2,3,4,5,6]
def tE:Sl:=ae Go.Proofs.Tryz.types Go.Proofs.Tryz.f50 rq []
theorem wF:aD Go.Proofs.Tryz.prog Go.Proofs.Tryz.f50 rq tE 1=true:=by decide +kernel
theorem Q9(m:Smp)(hs:m.src.ok=true)(ht:m.aJ.ok=true):al Go.Proofs.Tryz.prog 50 [.v (.ptr m.cells)] (.vw (iB m)):=by
 have h1:=E4 m.src hs;have h2:=E4 m.aJ ht;cases ha:m.src.bn with
 | none =>
  rw[Eg ha] at h1;rw[show iB m=.af [.aN,.int .i64 3] by unfold iB;rw[ha]];refine al.p4 (xs:=[_]) (res:=.af [.aN,.int .i64 3]) ?_;show al _ _ [.v (.ptr m.cells)] _;refine aA Go.Proofs.Tryz.func50 wF ?_;unfold tE ae rq;simp only[go_sem];refine gJ (bs:=[_]) h1 rfl ⟨.inr ⟨5,_,rfl,rfl⟩,trivial⟩ (.inr trivial) ?_;simp only[go_sem];exact fun h=>by cases h
 | some a =>
  rw[Eh ha] at h1;cases hb:m.aJ.bn with
  | none =>
   rw[Eg hb] at h2;rw[show iB m=.af [.aN,.int .i64 3] by unfold iB;rw[ha,hb]];refine al.p4 (xs:=[_]) (res:=.af [.aN,.int .i64 3]) ?_;show al _ _ [.v (.ptr m.cells)] _;refine aA Go.Proofs.Tryz.func50 wF ?_;unfold tE ae rq;simp only[go_sem];refine gJ (bs:=[_]) h1 rfl ⟨.inr ⟨5,_,rfl,rfl⟩,trivial⟩ (.inr trivial) ?_;simp only[go_sem,au.pD];refine⟨fun h=>(by cases h),fun _=>?_⟩;refine gJ (bs:=[_]) h2 rfl ⟨.inr ⟨5,_,rfl,rfl⟩,trivial⟩ (.inr trivial) ?_;simp only[go_sem];exact fun h=>by cases h
  | some b =>
   rw[Eh hb] at h2
   have aG:(D.af [.vw (dh m a b),.int .i64 0]).strip=.af [dh m a b,.int .i64 0]:=by
    show D.af [(match(dh m a b).strip with | .agg l=>D.vw (.agg l) | d'=>d'),_]=_;rw[Df];rfl
   rw[show iB m=.af [dh m a b,.int .i64 0] by unfold iB;rw[ha,hb],<-aG];refine al.p4 (xs:=[_]) (res:=.af [.vw (dh m a b),.int .i64 0]) ?_;show al _ _ [.v (.ptr m.cells)] _;refine aA Go.Proofs.Tryz.func50 wF ?_;unfold tE ae rq;simp only[go_sem];refine gJ (bs:=[_]) h1 rfl ⟨.inr ⟨5,_,rfl,rfl⟩,trivial⟩ (.inr trivial) ?_;simp only[go_sem,au.pD];refine⟨fun h=>(by cases h),fun _=>?_⟩;refine gJ (bs:=[_]) h2 rfl ⟨.inr ⟨5,_,rfl,rfl⟩,trivial⟩ (.inr trivial) ?_;simp only[go_sem,au.pD];exact⟨fun h=>(by cases h),fun _=>rfl⟩
end Go.D3
namespace Go.D3
open Go
set_option maxHeartbeats 4000000
set_option maxRecDepth 100000
def zi:List Nat:=[0,1,4,3,5,7,30,31,32]
def Ga:Sl:=ae Go.Proofs.Tryz.types Go.Proofs.Tryz.f55 zi []
theorem NP:aD Go.Proofs.Tryz.prog Go.Proofs.Tryz.f55 zi Ga 2=true:=by decide +kernel
theorem E2{m:Smp}(hm:m.Ok)(a:au){b:au}(hb:fL m.aJ b){p:Pth}{y:Int}(hp:m.src.aF p=some y):al Go.Proofs.Tryz.prog 55 [.v (dh m a b),.v (Pth.d p)] (.int .i64 (m.fb b p p.ed.length)):=by
 obtain⟨h1,h2,_⟩:=bw.1 hp;have hn:=hm.n;have hi:=hb.sh.aL;have ho:=hb.ob;have hco:=hb.sh.co;have hr:=hm.r p.st.toNat (by omega);unfold dh au.pD;refine aA Go.Proofs.Tryz.func55 NP ?_;unfold Ga ae zi;simp only[go_sem];refine⟨by omega,by omega,?_⟩;refine aI [5] (fun(i:Nat)=>[(4,.int .i64 (m.fb b p i)),(8,.int .i64 i)]) (fun i=>i<=p.ed.length) (fun i=>p.ed.length-i) 0 (by simp only[go_sem];rfl) (Nat.zero_le _) rfl ?_;intro i hi;simp only[go_sem];refine⟨fun h3=>?_,fun h3=>?_⟩
 ·obtain⟨k,c,k1,k2,k3,c1,c2,c3,c4,f1,f2⟩:=Smp.vi hm hb hp h3
  obtain⟨h,n,i1,i2,i3,i4⟩:=Smp.vH hm hb hp i (by omega);have aG:=Smp.vI (m:=m) (b:=b) h3;rw[k1,Int.toNat_natCast,c1] at aG;have hrow:=hb.sh.row h i2;have hw:=aH h3 (show p.ed.length<=maxLen by simp only[maxLen];omega);simp only[k1,Int.toNat_natCast];refine⟨h3,by omega,ak (tD hb _ _ k3) rfl (.inl rfl) ?_⟩;rw[c1];simp only[go_sem];refine gJ (bs:=[_,_,_]) (xB b.c (m.fb b p i) (c:Int) (by omega) (by omega) (by omega) (by rw[i1,Int.toNat_natCast];omega)) rfl ⟨.inr ⟨5,_,rfl,rfl⟩,.inl rfl,.inl rfl,trivial⟩ (.inl rfl) ?_;simp only[go_sem];exact⟨i+1,h3,by omega,by rw[aG,hw];rfl⟩
 ·rw[show i=p.ed.length by omega]
def zj:List Nat:=[0,2,3,12,13]
def Gb:Sl:=ae Go.Proofs.Tryz.types Go.Proofs.Tryz.f51 zj []
theorem NQ:aD Go.Proofs.Tryz.prog Go.Proofs.Tryz.f51 zj Gb 1=true:=by decide +kernel
theorem Rb{m:Smp}(hm:m.Ok)(a:au){b:au}(hb:fL m.aJ b):al Go.Proofs.Tryz.prog 51 [.v (dh m a b)] (.bool (m.eX b)):=by
 obtain⟨hk1,hlf,hrt⟩:=fg hm.s;have him:=fun {p y}(hp:m.src.aF p=some y)=>E2 hm a hb hp
 unfold dh au.pD at him|-
 refine aA Go.Proofs.Tryz.func51 NQ ?_;unfold Gb ae zj;simp only[go_sem];refine aI [2] (fun(i:Nat)=>[(4,.int .i64 i)]) (fun i=>i<=m.src.lf.length/\ca i (fun i=>m.fb b (m.src.lf.getD i Pth.zero) (m.src.lf.getD i Pth.zero).ed.length == m.fb b (m.src.rt.getD i Pth.zero) (m.src.rt.getD i Pth.zero).ed.length)=true) (fun i=>m.src.lf.length-i) 0 (by simp only[go_sem];rfl) ⟨Nat.zero_le _,rfl⟩ rfl ?_;rintro i ⟨hi,ha⟩;simp only[go_sem];refine⟨fun h1=>?_,fun h1=>?_⟩
 ·obtain⟨z,hp,hq,aG⟩:=ok_eq hm.s h1
  refine⟨h1,ak (him hp) rfl (.inl rfl) ?_⟩;simp only[go_sem];refine⟨by omega,ak (him hq) rfl (.inl rfl) ?_⟩;simp only[go_sem];refine⟨fun h2=>?_,fun h2=>⟨i+1,⟨h1,jx ha (by rw[beq_iff_eq];rwa [bne_eq_false_iff_eq] at h2)⟩,by omega,by rw[aH h1 (by simp only[maxLen];omega)]⟩⟩;unfold Smp.eX;rw[mH h1 (by rw[bne_iff_ne] at h2;exact beq_eq_false_iff_ne.2 h2)]
 ·unfold Smp.eX
  rw[show m.src.lf.length=i by omega,ha]
noncomputable def gx(m:Smp):D :=
 if m.okB=true then
  match m.src.bn with
  | none=>.af [.aN,.int .i64 3]
  | some a=>match m.aJ.bn with
   | none=>.af [.aN,.int .i64 3]
   | some b=>if m.eX b=true then .af [dh m a b,.int .i64 0] else .af [.aN,.int .i64 5]
 else .af [.aN,.int .i64 1]
def pU:List Nat:=[0,1,4,5,7,8,9,13,14,15]
def rf:Sl:=ae Go.Proofs.Tryz.types Go.Proofs.Tryz.f31 pU []
theorem sX:aD Go.Proofs.Tryz.prog Go.Proofs.Tryz.f31 pU rf 2=true:=by decide +kernel
theorem Q8(m:Smp):al Go.Proofs.Tryz.prog 31 [.v (.ptr m.cells),.v (U Pth.d Pth.zero [])] (.vw (gx m)):=by
 have hparts:=QU m
 have nope:∀{n:Int},gx m=.af [.aN,.int .i64 n]->al Go.Proofs.Tryz.prog 31 [.v (.ptr m.cells),.v (U Pth.d Pth.zero [])] (.af [.aN,.int .i64 n])->al Go.Proofs.Tryz.prog 31 [.v (.ptr m.cells),.v (U Pth.d Pth.zero [])] (.vw (gx m)):=fun he h=>by
  rw[he];exact al.p4 (xs:=[_,_]) h
 cases hok:m.okB with
 | false =>
  rw[hok] at hparts;refine nope (n:=1) (by unfold gx;rw[hok];rfl) ?_;refine aA Go.Proofs.Tryz.func31 sX ?_;unfold rf ae pU;simp only[go_sem];refine ak hparts rfl (.inl rfl) ?_;simp only[go_sem]
 | true =>
  rw[hok] at hparts;have hm:=Smp.qM hok;have hmo:=Q9 m hm.s hm.t
  have limit:iB m=.af [.aN,.int .i64 3]->gx m=.af [.aN,.int .i64 3]->al Go.Proofs.Tryz.prog 31 [.v (.ptr m.cells),.v (U Pth.d Pth.zero [])] (.vw (gx m)):=fun h1 h2=>by
   rw[h1] at hmo;refine nope h2 ?_;refine aA Go.Proofs.Tryz.func31 sX ?_;unfold rf ae pU;simp only[go_sem];refine ak hparts rfl (.inl rfl) ?_;simp only[go_sem];refine aI [] (fun(_:Nat)=>[]) (fun _=>True) (fun _=>0) 0 (by simp only[go_sem];rfl) trivial rfl ?_;intro _ _;simp only[go_sem];refine⟨fun h=>absurd h (by simp),fun _=>?_⟩;refine ak hmo rfl (.inr trivial) ?_;simp only[go_sem];exact fun h=>by cases h
  cases ha:m.src.bn with
  | none=>exact limit (by unfold iB;rw[ha]) (by unfold gx;rw[if_pos hok,ha])
  | some a =>
   cases hb:m.aJ.bn with
   | none=>exact limit (by unfold iB;rw[ha,hb]) (by unfold gx;rw[if_pos hok,ha,hb])
   | some b =>
    have hmo2:iB m=.af [dh m a b,.int .i64 0]:=by unfold iB;rw[ha,hb]
    have hrs:=Rb hm a (l9 hm.t hb);rw[hmo2] at hmo;cases hr:m.eX b with
    | false =>
     rw[hr] at hrs;refine nope (n:=5) (by unfold gx;rw[if_pos hok,ha,hb];simp only[hr];rfl) ?_;refine aA Go.Proofs.Tryz.func31 sX ?_;unfold rf ae pU;simp only[go_sem];refine ak hparts rfl (.inl rfl) ?_;simp only[go_sem];refine aI [] (fun(_:Nat)=>[]) (fun _=>True) (fun _=>0) 0 (by simp only[go_sem];rfl) trivial rfl ?_;intro _ _;simp only[go_sem];refine⟨fun h=>absurd h (by simp),fun _=>?_⟩;refine ak hmo rfl (.inr trivial) ?_;unfold dh au.pD at hrs|-
     simp only[go_sem];refine⟨fun h=>(by cases h),fun _=>?_⟩;refine ak hrs rfl (.inl rfl) ?_;simp only[go_sem]
    | true =>
     rw[hr] at hrs
     have aG:(D.af [.vw (dh m a b),.int .i64 0]).strip=.af [dh m a b,.int .i64 0]:=by
      show D.af [(match(dh m a b).strip with | .agg l=>D.vw (.agg l) | d'=>d'),_]=_;rw[Df];rfl
     rw[show gx m=.af [dh m a b,.int .i64 0] by unfold gx;rw[if_pos hok,ha,hb];simp only[hr,if_true],<-aG];refine al.p4 (xs:=[_,_]) (res:=.af [.vw (dh m a b),.int .i64 0]) ?_;show al _ _ [.v (.ptr m.cells),.v (U Pth.d Pth.zero [])] _;refine aA Go.Proofs.Tryz.func31 sX ?_;unfold rf ae pU;simp only[go_sem];refine ak hparts rfl (.inl rfl) ?_;simp only[go_sem];refine aI [] (fun(_:Nat)=>[]) (fun _=>True) (fun _=>0) 0 (by simp only[go_sem];rfl) trivial rfl ?_;intro _ _;simp only[go_sem];refine⟨fun h=>absurd h (by simp),fun _=>?_⟩;refine ak hmo rfl (.inr trivial) ?_;unfold dh au.pD at hrs|-
     simp only[go_sem];refine⟨fun h=>(by cases h),fun _=>?_⟩;refine ak hrs rfl (.inl rfl) ?_;simp only[go_sem]
def zh:List Nat:=[0,2,3,5,13,14,15]
def F9:Sl:=ae Go.Proofs.Tryz.types Go.Proofs.Tryz.f32 zh []
theorem NO:aD Go.Proofs.Tryz.prog Go.Proofs.Tryz.f32 zh F9 1=true:=by decide +kernel
theorem Ra{m:Smp}(hm:m.Ok){a b:au}(ha:m.src.bn=some a)(hb:m.aJ.bn=some b):al Go.Proofs.Tryz.prog 32 [.v (dh m a b)] (a6.d ⟨a.c,b.c,m.bq,m.cw b a.ls⟩):=by
 have hta:=l9 hm.s ha;have htb:=l9 hm.t hb;obtain⟨hsp,h40⟩:=xe hm.s ha;have hn:=hm.n;have hn8:=(ga (fg hm.s).1).n8;have him:=fun {p y}(hp:m.src.aF p=some y)=>E2 hm a htb hp
 unfold dh au.pD at him|-
 refine aA Go.Proofs.Tryz.func32 NO ?_;unfold F9 ae zh;simp only[go_sem];refine aI [3] (fun(i:Nat)=>[(2,.o (ints (m.cw b (a.ls.take i)))),(6,.int .i64 i)]) (fun i=>i<=a.ls.length) (fun i=>a.ls.length-i) 0 (by simp only[go_sem];rfl) (Nat.zero_le _) rfl ?_;intro i hi;have hal:∀l,(m.cw b l).length=l.length:=fun l=>List.length_map _
 simp only[go_sem];refine⟨fun h1=>?_,fun h1=>?_⟩
 ·obtain⟨y,hy⟩:=hsp _ (cR (d:=Pth.zero) h1)
  refine⟨h1,ak (him hy) rfl (.inl rfl) ?_⟩;simp only[go_sem];refine⟨by rw[hal,List.length_take];omega,i+1,h1,by omega,?_⟩;rw[aH h1 (by simp only[maxLen];omega),b9 h1 Pth.zero];unfold Smp.cw;rw[List.map_append];rfl
 ·rw[List.take_of_length_le (by omega)]
  refine ak (Q3 a.c b.c m.bq (m.cw b a.ls) hta.sh.ql htb.sh.ql (by omega) (by rw[hal];omega) rfl rfl) rfl (.inl (ny _)) ?_;simp only[go_sem]
theorem Dc(m:Smp):(∃n,gx m=.af [.aN,.int .i64 n]/\n≠0/\m.gO=(a6.zero,n)) \/
  ∃a b,gx m=.af [dh m a b,.int .i64 0]/\m.Ok/\m.src.bn=some a/\m.aJ.bn=some b/\m.eX b=true/\m.gO=(⟨a.c,b.c,m.bq,m.cw b a.ls⟩,0):=by
 unfold gx Smp.gO;by_cases hok:m.okB=true
 ·rw[if_pos hok,if_pos hok]
  cases ha:m.src.bn with
  | none=>exact .inl ⟨3,rfl,by decide,rfl⟩
  | some a =>
   cases hb:m.aJ.bn with
   | none=>exact .inl ⟨3,rfl,by decide,rfl⟩
   | some b =>
    by_cases hr:m.eX b=true
    ·simp only[if_pos hr]
     exact .inr ⟨a,b,rfl,Smp.qM hok,rfl,rfl,hr,rfl⟩
    ·simp only[if_neg hr]
     exact .inl ⟨5,rfl,by decide,rfl⟩
 ·rw[if_neg hok,if_neg hok]
  exact .inl ⟨1,rfl,by decide,rfl⟩
def tZ:List Nat:=[0,2,3,1,4,5]
def xS:Sl:=ae Go.Proofs.Tryz.types Go.Proofs.Tryz.f9 tZ []
theorem DG:aD Go.Proofs.Tryz.prog Go.Proofs.Tryz.f9 tZ xS 1=true:=by decide +kernel
theorem QT(m:Smp):al Go.Proofs.Tryz.prog 9 [.v (Smp.d m)] (.af [a6.d m.gO.1,.int .i64 m.gO.2]):=by
 have hmc:=Q8 m;rcases Dc m with⟨n,h1,h2,h3⟩ | ⟨a,b,h1,hm,ha,hb,_,h3⟩
 ·rw[h1] at hmc
  rw[h3];refine aA Go.Proofs.Tryz.func9 DG ?_;unfold xS ae tZ;simp only[go_sem];refine ak hmc rfl (.inr trivial) ?_;simp only[go_sem];exact⟨fun _=>rfl,fun h=>absurd (bne_eq_false_iff_eq.1 h) h2⟩
 ·rw[h1] at hmc
  rw[h3];have hf:=Ra hm ha hb;unfold dh au.pD at hf hmc;refine aA Go.Proofs.Tryz.func9 DG ?_;unfold xS ae tZ;simp only[go_sem];refine ak hmc rfl (.inr trivial) ?_;simp only[go_sem];refine⟨fun h=>(by cases h),fun _=>?_⟩;refine ak hf rfl (.inl (ny _)) ?_;simp only[go_sem]
end Go.D3
namespace Go.D3
open Go
set_option maxHeartbeats 4000000
set_option maxRecDepth 100000
theorem JQ{a:List (List Int)}:cE a a.length<=cN List.length a:=by
 have:∀i,i<=a.length->cE a i=((a.take i).map List.length).sum:=by
  intro i;induction i with
  | zero=>intro _;simp[cE]
  | succ i ih=>intro h;rw[cE,ih (by omega),pP (cost:=List.length) (by omega) []]
 rw[this _ (Nat.le_refl _),List.take_length];unfold cN;omega
theorem qm{a:List Pth}:cz Pth.bH a a.length<=cN Pth.cost a:=by
 have h:∀l:List Pth,(l.map Pth.bH).sum=l.length+(l.map Pth.cost).sum:=fun l=>by
  induction l with
  | nil=>rfl
  | cons x l ih=>simp only[List.map_cons,List.sum_cons,List.length_cons,ih,Pth.bH,Pth.cost];omega
 unfold cz cN;rw[List.take_length,h];omega
theorem Ta(m:Smp):m.aT<=Smp.cost m:=by
 have h1:=qm (a:=m.src.lf);have h2:=qm (a:=m.src.rt);have h3:=qm (a:=m.aJ.lf);have h4:=qm (a:=m.aJ.rt);have h5:=qm (a:=m.bh);unfold Smp.aT Smp.cost Sch.aT Sch.cost;omega
theorem Bx{c:ai}(h:c.Shape):c.aT<=1048576:=by
 have h1:=JQ (a:=c.co);have h2:=h.ql;unfold ai.cost at h2;unfold ai.aT;omega
theorem Ka(m:Smp)(hm:Smp.cost m<=1048576):m.gO.1.aT<=40000000:=by
 have z:a6.zero.aT<=40000000:=by decide
 rcases Dc m with⟨n,_,_,h⟩ | ⟨a,b,_,hk,ha,hb,_,h⟩
 ·rw[h];exact z
 ·rw[h]
  have h1:=Bx (l9 hk.s ha).sh;have h2:=Bx (l9 hk.t hb).sh;have h3:=(xe hk.s ha).2;have h4:(m.cw b a.ls).length=a.ls.length:=List.length_map _;unfold Smp.cost at hm;show a.c.aT+b.c.aT+m.bq.length+(m.cw b a.ls).length<=_;omega
def zu:List Nat:=[0,2,1,3,4,5,6,7,8,9,10,11,12,13]
def Gl:Sl:=ae Go.Proofs.Tryz.types Go.Proofs.Tryz.f3 zu [(2,12),(2,13)]
theorem N0:aD Go.Proofs.Tryz.prog Go.Proofs.Tryz.f3 zu Gl 1=true:=by decide +kernel
theorem Rh(m:Smp):al Go.Proofs.Tryz.prog 3 [.v (Smp.d m)] (.bool true):=by
 refine aA Go.Proofs.Tryz.func3 N0 ?_;unfold Gl ae zu;simp only[go_sem];refine ak (Rq m _ (by decide) (by decide)) rfl (.inl rfl) ?_;simp only[go_sem];refine fun h0=>?_
 obtain⟨hs_m,hl0,hh0⟩:=Sa (left:=1048576) (n:=Smp.cost m) (by decide) (by decide) (by omega);have hA1:=Ta m;have hR:=Ka m hs_m;have hsp:=RA m;have him:=QT m;generalize m.gO=R at hR hsp him;refine ak (tB m hs_m) rfl (.inl (sW _)) ?_;simp only[go_sem];refine ak (hsp) rfl (.inl (by simp only[D.bd,dU,ny,Bool.and_true])) ?_;simp only[go_sem];refine ak (tB m hs_m) rfl (.inl (sW _)) ?_;simp only[go_sem];refine ak (him) rfl (.inl (by simp only[D.bd,dU,ny,Bool.and_true])) ?_;simp only[go_sem];refine ak (xF R.1) rfl (.inl rfl) ?_;simp only[go_sem];refine⟨fun hh=>by simp at hh,fun _=>?_⟩;refine ak (tB m hs_m) rfl (.inl (sW _)) ?_;simp only[go_sem];refine ak (Rk m) rfl (.inl rfl) ?_;simp only[go_sem];refine oW (Ro m 1 (by omega) (by omega)) trivial ?_;simp only[go_sem];refine⟨(m.marks 1).cells,rfl,oO ?_⟩;simp only[go_sem];have hk:∀z:Int,0<=z->decide (z<0)=false:=fun z hz=>decide_eq_false (by omega)
 simp only[hk _ (show 0<=(1:Int)+m.aT by omega),Bool.not_false];refine bO (fun _=>xF R.1) rfl (fun _=>rfl) (.inl rfl) ?_;simp only[go_sem];refine⟨fun hh=>by simp at hh,fun _=>?_⟩;refine oW (Rm R.1 1 (by omega) (by omega)) trivial ?_;simp only[go_sem];refine⟨(R.1.marks 1).cells,rfl,oO ?_⟩;simp only[go_sem];refine ak (E8 R.1 1 (by omega) (by omega)) rfl (.inl rfl) ?_;simp only[go_sem];refine⟨fun hh=>by omega,fun _=>?_⟩;refine⟨fun hh=>by simp at hh,fun _=>?_⟩;refine ak (tB m hs_m) rfl (.inl (sW _)) ?_;simp only[go_sem];refine ak (him) rfl (.inl (by simp only[D.bd,dU,ny,Bool.and_true])) ?_;simp only[go_sem];refine ak (xF R.1) rfl (.inl rfl) ?_;simp only[go_sem];refine⟨fun hh=>by simp at hh,fun _=>?_⟩;refine ak (E8 R.1 1 (by omega) (by omega)) rfl (.inl rfl) ?_;simp only[go_sem];refine⟨fun hh=>by omega,fun _=>?_⟩;simp
end Go.D3
namespace Go.D3
open Go Go.ChangeShapes Go.RowKit Go.Proofs.YtpnchponfnbmiaaGreatDoor
theorem J2:Go.Proofs.Tryz.prog.globalNamed "errors.errorType"=some 0:=by kernel_rfl
theorem J4:(Go.Proofs.Tryz.prog.cutTypes.find? (·.1 == "internal/reflectlite.rtype")).map (·.2)=some 264:=by kernel_rfl
theorem J3:((List.range Go.Proofs.Tryz.prog.types.size).filter fun t=>Go.Proofs.Tryz.prog.rowNamed t [101,114,114,111,114])=[177]:=by kernel_rfl
abbrev rD:List (String×DataW Unit):=Rows.fnExactSchemaMapFunctorRow.laid
theorem B5{W:World}(h:laidMetH Go.Proofs.Tryz.prog rD W):W.cell? ⟨0,0,none⟩=some (.iface 264 (.agg #[.pointer (some ⟨10,177,none⟩)])):=by
 have h':laidMet Go.Proofs.Tryz.prog [] W/\handlesMet Go.Proofs.Tryz.prog rD W:=h;obtain⟨name,u,ty,e1,e2,e3,e4,e5⟩:=h'.2 _ (List.mem_singleton.2 rfl);have en:name=[101,114,114,111,114]:=(Option.some.inj e1).symm;subst en;obtain rfl:=Option.some.inj (J4.symm.trans e2);have hm:ty∈(List.range Go.Proofs.Tryz.prog.types.size).filter fun t=>Go.Proofs.Tryz.prog.rowNamed t [101,114,114,111,114]:=List.mem_filter.2 ⟨List.mem_range.2 e3,e4⟩
 rw[J3] at hm;obtain rfl:=List.mem_singleton.1 hm;have hh:typeHandle Go.Proofs.Tryz.prog 177=.pointer (some ⟨10,177,none⟩):=by kernel_rfl
 rw[hh] at e5;simpa using World.var?_cell J2 e5 0
theorem Ki{W:World}(h:laidMetH Go.Proofs.Tryz.prog rD W):fK W (gS W):=fK.M9 (B5 h) (BC (B5 h)).1
theorem JW(os:Os)(args:Array Value):laidMetH Go.Proofs.Tryz.prog rD ((World.doorLaid Go.Proofs.Tryz.prog 98 os).forCall (fun _ _=>0) ⟨#[],args,[]⟩).memory :=
 laidMetH_of_parts (laidMet_nil _ _) (by kernel_rfl)
end Go.D3
