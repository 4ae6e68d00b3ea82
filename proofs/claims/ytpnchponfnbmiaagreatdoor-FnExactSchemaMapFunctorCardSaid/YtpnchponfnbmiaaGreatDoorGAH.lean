/- CONTRACTS: maps of schemas: marks on arguments. -/
import Derived.Test.YtpnchponfnbmiaaGreatDoorGAG
import Derived.Test.YtpnchponfnbmiaaGreatDoorGAF
import Derived.Test.YtpnchponfnbmiaaGreatDoorGAA
namespace Go.D3
open Go
set_option maxHeartbeats 4000000
set_option maxRecDepth 100000
noncomputable def fS(m:Smp):D :=
 if m.okB=true then
  match m.src.bn with
  | Option.none=>.af [.agg (bF Smp.zero au.none au.none),.int .i64 3]
  | some a=>match m.aJ.bn with
   | Option.none=>.af [.agg (bF Smp.zero au.none au.none),.int .i64 3]
   | some b=>.af [.agg (bF m a b),.int .i64 0]
 else .af [.agg (bF Smp.zero au.none au.none),.int .i64 1]
def kC(m:Smp)(a b:au):List D:=[.int .i64 m.src.nd,.vw (ints m.src.fr),.vw (ints m.src.to),.vw (U Pth.d Pth.zero m.src.lf),.vw (U Pth.d Pth.zero m.src.rt),.int .i64 m.aJ.nd,.vw (ints m.aJ.fr),.vw (ints m.aJ.to),.vw (U Pth.d Pth.zero m.aJ.lf),.vw (U Pth.d Pth.zero m.aJ.rt),.vw (ints m.bq),.vw (U Pth.d Pth.zero m.bh),.int .i64 a.c.ob,.vw (ints a.c.fr),.vw (ints a.c.to),.vw (ints a.c.aL),.vw (aO a.c.co),.vw (U Pth.d Pth.zero a.ls),.vw (ints a.ed),.int .i64 b.c.ob,.vw (ints b.c.fr),.vw (ints b.c.to),.vw (ints b.c.aL),.vw (aO b.c.co),.vw (U Pth.d Pth.zero b.ls),.vw (ints b.ed)]
theorem K5{m:Smp}{a b:au}:stripL (kC m a b)=bF m a b:=by
 unfold kC;simp only[stripL,D.strip,dj,pO,oc];rfl
theorem K4{m:Smp}{a b:au}:stripL (bF m a b)=bF m a b:=by
 unfold bF Smp.cells au.sL;simp only[List.cons_append,List.nil_append,stripL,D.strip,dj,pO,oc]
theorem v7{m:Smp}{a b:au}{n:Int}:(D.af [.agg (bF m a b),.int .i64 n]).strip=.af [.agg (bF m a b),.int .i64 n]:=by
 show D.af [.agg (stripL (bF m a b)),_]=_;rw[K4];rfl
theorem vZ{m:Smp}{a b:au}{n:Int}:(D.af [.agg (kC m a b),.int .i64 n]).strip=.af [.agg (bF m a b),.int .i64 n]:=by
 show D.af [.agg (stripL (kC m a b)),_]=_;rw[K5];rfl
theorem al.pZ{P:Program}{f:FuncId}{ar:List Arg}{xs:List D}{res d:D}(h:al P f ar res)(ha:ar=xs.map .v)(he:res.strip=d):al P f ar (.vw d):=by
 subst ha;rw[<-he];exact h.p4
def od:List Nat:=[0,2,3,1,4,5,6,7]
def pH:Sl:=ae Go.Proofs.Tryz.types Go.Proofs.Tryz.f71 od []
theorem qN:aD Go.Proofs.Tryz.prog Go.Proofs.Tryz.f71 od pH 1=true:=by decide +kernel
theorem Fk(m:Smp):al Go.Proofs.Tryz.prog 71 [.v (Smp.d m)] (.vw (fS m)):=by
 have hparts:=RV m;by_cases hok:m.okB=true
 ·have hm:=Smp.qM hok
  rw[hok] at hparts;have h1:=Fl m.src hm.s;have h2:=Fl m.aJ hm.t;cases ha:m.src.bn with
  | none =>
   rw[show fS m=.af [.agg (bF Smp.zero au.none au.none),.int .i64 3] by unfold fS;rw[if_pos hok,ha]];refine al.pZ (xs:=[_]) (res:=.af [.agg (bF Smp.zero au.none au.none),.int .i64 3]) ?_ rfl v7;rw[yz ha] at h1;unfold au.sL at h1;cases hb:m.aJ.bn with
   | none =>
    rw[yz hb] at h2;unfold au.sL at h2;refine aA Go.Proofs.Tryz.func71 qN ?_;unfold pH ae od;simp only[go_sem];refine ak hparts rfl (.inl rfl) ?_;simp only[go_sem];refine ak h1 rfl (.inr trivial) ?_;simp only[go_sem];refine ak h2 rfl (.inr trivial) ?_;simp(config:={ maxSteps:=2000000 }) only[go_sem];rfl
   | some b =>
    rw[yA hb] at h2;unfold au.sL at h2;refine aA Go.Proofs.Tryz.func71 qN ?_;unfold pH ae od;simp only[go_sem];refine ak hparts rfl (.inl rfl) ?_;simp only[go_sem];refine ak h1 rfl (.inr trivial) ?_;simp only[go_sem];refine ak h2 rfl (.inr trivial) ?_;simp(config:={ maxSteps:=2000000 }) only[go_sem];rfl
  | some a =>
   rw[yA ha] at h1;unfold au.sL at h1;cases hb:m.aJ.bn with
   | none =>
    rw[show fS m=.af [.agg (bF Smp.zero au.none au.none),.int .i64 3] by unfold fS;rw[if_pos hok,ha];simp only[hb]];refine al.pZ (xs:=[_]) (res:=.af [.agg (bF Smp.zero au.none au.none),.int .i64 3]) ?_ rfl v7;rw[yz hb] at h2;unfold au.sL at h2;refine aA Go.Proofs.Tryz.func71 qN ?_;unfold pH ae od;simp only[go_sem];refine ak hparts rfl (.inl rfl) ?_;simp only[go_sem];refine ak h1 rfl (.inr trivial) ?_;simp only[go_sem];refine ak h2 rfl (.inr trivial) ?_;simp(config:={ maxSteps:=2000000 }) only[go_sem];rfl
   | some b =>
    rw[show fS m=.af [.agg (bF m a b),.int .i64 0] by unfold fS;rw[if_pos hok,ha];simp only[hb]];refine al.pZ (xs:=[_]) (res:=.af [.agg (kC m a b),.int .i64 0]) ?_ rfl vZ;rw[yA hb] at h2;unfold au.sL at h2;refine aA Go.Proofs.Tryz.func71 qN ?_;unfold pH ae od;simp only[go_sem];refine ak hparts rfl (.inl rfl) ?_;simp only[go_sem];refine ak h1 rfl (.inr trivial) ?_;simp only[go_sem];refine ak h2 rfl (.inr trivial) ?_;simp(config:={ maxSteps:=2000000 }) only[go_sem];rfl
 ·rw[Bool.not_eq_true] at hok
  rw[hok] at hparts;rw[show fS m=.af [.agg (bF Smp.zero au.none au.none),.int .i64 1] by unfold fS;rw[if_neg (by simp[hok])]];refine al.pZ (xs:=[_]) (res:=.af [.agg (bF Smp.zero au.none au.none),.int .i64 1]) ?_ rfl v7;refine aA Go.Proofs.Tryz.func71 qN ?_;unfold pH ae od;simp only[go_sem];refine ak hparts rfl (.inl rfl) ?_;simp only[go_sem];rfl
end Go.D3
namespace Go.D3
open Go
set_option maxHeartbeats 4000000
set_option maxRecDepth 100000
noncomputable def nk(m:Smp):D :=
 if m.okB=true then
  match m.src.bn with
  | Option.none=>.af [.agg (bF Smp.zero au.none au.none),.int .i64 3]
  | some a=>match m.aJ.bn with
   | Option.none=>.af [.agg (bF Smp.zero au.none au.none),.int .i64 3]
   | some b=>if m.eX b=true then .af [.agg (bF m a b),.int .i64 0] else .af [.agg (bF m a b),.int .i64 5]
 else .af [.agg (bF Smp.zero au.none au.none),.int .i64 1]
def ud:List Nat:=[0,2,3,1,4,5]
def xV:Sl:=ae Go.Proofs.Tryz.types Go.Proofs.Tryz.f26 ud []
theorem DJ:aD Go.Proofs.Tryz.prog Go.Proofs.Tryz.f26 ud xV 1=true:=by decide +kernel
theorem xz{m m':Smp}{a b:au}{n:Int}(h:fS m=.af [.agg (bF m' a b),.int .i64 n])(hn:n=1\/n=3):al Go.Proofs.Tryz.prog 26 [.v (Smp.d m)] (.vw (.af [.agg (bF m' a b),.int .i64 n])):=by
 have ho:=Fk m;refine al.pZ (xs:=[_]) (res:=.af [.agg (kC m' a b),.int .i64 n]) ?_ rfl vZ;rw[h] at ho;unfold bF Smp.cells au.sL at ho;unfold kC;refine aA Go.Proofs.Tryz.func26 DJ ?_;unfold xV ae ud;simp only[go_sem];refine ak ho rfl (.inr trivial) ?_;rcases hn with rfl | rfl
 ·simp(config:={ maxSteps:=2000000 }) only[go_sem]
  refine bO (res:=.bool false) (fun h=>by cases h) rfl (fun h=>by cases h) (.inl rfl) ?_;simp(config:={ maxSteps:=2000000 }) only[go_sem];exact fun h=>absurd h (by decide)
 ·simp(config:={ maxSteps:=2000000 }) only[go_sem]
  refine bO (res:=.bool false) (fun h=>by cases h) rfl (fun h=>by cases h) (.inl rfl) ?_;simp(config:={ maxSteps:=2000000 }) only[go_sem];exact fun h=>absurd h (by decide)
theorem QM{m:Smp}{a b:au}(h:fS m=.af [.agg (bF m a b),.int .i64 0])(hm:m.Ok)(hb:fL m.aJ b)(n:Int)(hn:n=if m.eX b=true then 0 else 5):al Go.Proofs.Tryz.prog 26 [.v (Smp.d m)] (.vw (.af [.agg (bF m a b),.int .i64 n])):=by
 have ho:=Fk m;have hr:=RW hm a hb;refine al.pZ (xs:=[_]) (res:=.af [.agg (kC m a b),.int .i64 n]) ?_ rfl vZ;rw[h] at ho;unfold bF Smp.cells au.sL at ho hr;unfold kC;refine aA Go.Proofs.Tryz.func26 DJ ?_;unfold xV ae ud;simp only[go_sem];refine ak ho rfl (.inr trivial) ?_;simp(config:={ maxSteps:=2000000 }) only[go_sem];refine bO (fun _=>hr) rfl (fun h=>h) (.inl rfl) ?_;simp(config:={ maxSteps:=2000000 }) only[go_sem];refine⟨fun h=>?_,fun h=>?_⟩
 ·rw[hn,if_neg (by intro h';simp[h'] at h)]
 ·have hx:m.eX b=true:=by
   cases hx:m.eX b with
   | true=>rfl
   | false=>simp[hx] at h
  rw[hn,if_pos hx]
theorem Fi(m:Smp):al Go.Proofs.Tryz.prog 26 [.v (Smp.d m)] (.vw (nk m)):=by
 unfold nk;by_cases hok:m.okB=true
 ·have hm:=Smp.qM hok
  rw[if_pos hok];cases ha:m.src.bn with
  | none=>exact xz (by unfold fS;rw[if_pos hok,ha]) (.inr rfl)
  | some a =>
   cases hb:m.aJ.bn with
   | none=>exact xz (by unfold fS;rw[if_pos hok,ha];simp only[hb]) (.inr rfl)
   | some b =>
    have h:=QM (a:=a) (b:=b) (by unfold fS;rw[if_pos hok,ha];simp only[hb]) hm (l9 hm.t hb);by_cases hr:m.eX b=true
    ·simp only[if_pos hr]
     exact h 0 (by rw[if_pos hr])
    ·simp only[if_neg hr]
     exact h 5 (by rw[if_neg hr])
 ·rw[if_neg hok]
  exact xz (by unfold fS;rw[if_neg hok]) (.inl rfl)
theorem K3(m:Smp):(∃n,nk m=.af [.agg (bF Smp.zero au.none au.none),.int .i64 n]/\n≠0/\m.gO=(a6.zero,n)) \/
  (∃a b,nk m=.af [.agg (bF m a b),.int .i64 5]/\m.gO=(a6.zero,5)) \/
  ∃a b,nk m=.af [.agg (bF m a b),.int .i64 0]/\m.Ok/\m.src.bn=some a/\m.aJ.bn=some b/\m.eX b=true/\m.gO=(⟨a.c,b.c,m.bq,m.cw b a.ls⟩,0):=by
 unfold nk Smp.gO;by_cases hok:m.okB=true
 ·rw[if_pos hok,if_pos hok]
  cases ha:m.src.bn with
  | none=>exact .inl ⟨3,rfl,by decide,rfl⟩
  | some a =>
   cases hb:m.aJ.bn with
   | none=>exact .inl ⟨3,rfl,by decide,rfl⟩
   | some b =>
    by_cases hr:m.eX b=true
    ·simp only[if_pos hr]
     exact .inr (.inr ⟨a,b,rfl,Smp.qM hok,rfl,rfl,hr,rfl⟩)
    ·simp only[if_neg hr]
     exact .inr (.inl ⟨a,b,rfl,trivial⟩)
 ·rw[if_neg hok,if_neg hok]
  exact .inl ⟨1,rfl,by decide,rfl⟩
def ua:List Nat:=[0,2,3,1,4,5]
def xT:Sl:=ae Go.Proofs.Tryz.types Go.Proofs.Tryz.f7 ua []
theorem DH:aD Go.Proofs.Tryz.prog Go.Proofs.Tryz.f7 ua xT 1=true:=by decide +kernel
theorem Fe{m m':Smp}{a b:au}{n:Int}(h:nk m=.af [.agg (bF m' a b),.int .i64 n])(hn:n≠0):al Go.Proofs.Tryz.prog 7 [.v (Smp.d m)] (.af [a6.d a6.zero,.int .i64 n]):=by
 have ho:=Fi m;rw[h] at ho;unfold bF Smp.cells au.sL at ho;refine aA Go.Proofs.Tryz.func7 DH ?_;unfold xT ae ua;simp only[go_sem];refine ak ho rfl (.inr trivial) ?_;simp(config:={ maxSteps:=2000000 }) only[go_sem];refine⟨fun _=>rfl,fun h=>absurd (bne_eq_false_iff_eq.1 h) hn⟩
theorem RA(m:Smp):al Go.Proofs.Tryz.prog 7 [.v (Smp.d m)] (.af [a6.d m.gO.1,.int .i64 m.gO.2]):=by
 rcases K3 m with⟨n,h1,h2,h3⟩ | ⟨a,b,h1,h3⟩ | ⟨a,b,h1,hm,ha,hb,_,h3⟩
 ·rw[h3];exact Fe h1 h2
 ·rw[h3];exact Fe h1 (by decide)
 ·have ho:=Fi m
  rw[h1] at ho;rw[h3];have hf:=RU hm ha hb;unfold bF Smp.cells au.sL at hf ho;refine aA Go.Proofs.Tryz.func7 DH ?_;unfold xT ae ua;simp only[go_sem];refine ak ho rfl (.inr trivial) ?_;simp(config:={ maxSteps:=2000000 }) only[go_sem];refine⟨fun h=>(by cases h),fun _=>?_⟩;refine ak hf rfl (.inl (ny _)) ?_;simp only[go_sem]
end Go.D3
namespace Go.D3
open Go
set_option maxHeartbeats 4000000
set_option maxRecDepth 100000
def ai.marks(k:Int)(a:ai):ai:={ a with fr:=cH (k) a.fr.length,to:=cH (k+a.fr.length) a.to.length,aL:=cH (k+a.fr.length+a.to.length) a.aL.length,co:=jN (k+a.fr.length+a.to.length+a.aL.length) a.co }
def ai.aT(a:ai):Nat:=a.fr.length+a.to.length+a.aL.length+cE a.co a.co.length
def zI:List Nat:=[0,1,4,2]
def GB:Sl:=ae Go.Proofs.Tryz.types Go.Proofs.Tryz.f40 zI [(2,38),(2,68),(9,2)]
theorem Od:aD Go.Proofs.Tryz.prog Go.Proofs.Tryz.f40 zI GB 2=true:=by decide +kernel
theorem E9(a:ai)(k:Int)(h0 : 0<=k)(h1:k+a.aT<=4611686018427387900):al Go.Proofs.Tryz.prog 40 [.io (.o (ai.d a)) (.o (ai.d (a.marks k))),.v (.int .i64 k)] (.int .i64 (k+a.aT)):=by
 unfold ai.aT at h1|-
 refine aA Go.Proofs.Tryz.func40 Od ?_;unfold GB ae zI;simp only[go_sem];refine fc (jU a.fr (k) (by omega) (by omega)) trivial ?_;simp only[go_sem];refine⟨_,ints (cH (k) a.fr.length),rfl,rfl,rfl,?_⟩;refine fc (jU a.to (k+a.fr.length) (by omega) (by omega)) trivial ?_;simp only[go_sem];refine⟨_,ints (cH (k+a.fr.length) a.to.length),rfl,rfl,rfl,?_⟩;refine fc (jU a.aL (k+a.fr.length+a.to.length) (by omega) (by omega)) trivial ?_;simp only[go_sem];refine⟨_,ints (cH (k+a.fr.length+a.to.length) a.aL.length),rfl,rfl,rfl,?_⟩;refine fc (Rn a.co (k+a.fr.length+a.to.length+a.aL.length) (by omega) (by omega)) trivial ?_;simp only[go_sem];refine⟨_,aO (jN (k+a.fr.length+a.to.length+a.aL.length) a.co),rfl,rfl,rfl,?_⟩;exact⟨by simp only[Int.natCast_add,Int.add_assoc],rfl⟩
def zE:List Nat:=[0,1,4,2]
def Gx:Sl:=ae Go.Proofs.Tryz.types Go.Proofs.Tryz.f41 zE []
theorem N9:aD Go.Proofs.Tryz.prog Go.Proofs.Tryz.f41 zE Gx 2=true:=by decide +kernel
theorem E7(a:ai)(k:Int)(h0 : 0<=k)(h1:k+a.aT<=4611686018427387900):al Go.Proofs.Tryz.prog 41 [.v (ai.d (a.marks k)),.v (.int .i64 k)] (.int .i64 (k+a.aT)):=by
 unfold ai.aT at h1|-
 refine aA Go.Proofs.Tryz.func41 N9 ?_;unfold Gx ae zE;simp only[go_sem];refine ak (pF a.fr.length (k) (by omega) (by omega)) rfl (.inl rfl) ?_;simp only[go_sem];refine⟨fun hh=>by omega,fun _=>?_⟩;refine ak (pF a.to.length (k+a.fr.length) (by omega) (by omega)) rfl (.inl rfl) ?_;simp only[go_sem];refine⟨fun hh=>by omega,fun _=>?_⟩;refine ak (pF a.aL.length (k+a.fr.length+a.to.length) (by omega) (by omega)) rfl (.inl rfl) ?_;simp only[go_sem];refine⟨fun hh=>by omega,fun _=>?_⟩;refine ak (Rl a.co (k+a.fr.length+a.to.length+a.aL.length) (by omega) (by omega)) rfl (.inl rfl) ?_;simp only[go_sem];refine⟨fun hh=>by omega,fun _=>?_⟩;simp only[Int.natCast_add,Int.add_assoc]
def a6.marks(k:Int)(a:a6):a6:={ a with src:=a.src.marks (k),aJ:=a.aJ.marks (k+a.src.aT),ei:=cH (k+a.src.aT+a.aJ.aT) a.ei.length,cw:=cH (k+a.src.aT+a.aJ.aT+a.ei.length) a.cw.length }
def a6.aT(a:a6):Nat:=a.src.aT+a.aJ.aT+a.ei.length+a.cw.length
def zJ:List Nat:=[0,1,4,2]
def GC:Sl:=ae Go.Proofs.Tryz.types Go.Proofs.Tryz.f13 zJ [(2,38),(2,40),(9,2)]
theorem Oe:aD Go.Proofs.Tryz.prog Go.Proofs.Tryz.f13 zJ GC 2=true:=by decide +kernel
theorem Rm(a:a6)(k:Int)(h0 : 0<=k)(h1:k+a.aT<=4611686018427387900):al Go.Proofs.Tryz.prog 13 [.io (.o (a6.d a)) (.o (a6.d (a.marks k))),.v (.int .i64 k)] (.int .i64 (k+a.aT)):=by
 unfold a6.aT at h1|-
 refine aA Go.Proofs.Tryz.func13 Oe ?_;unfold GC ae zJ;simp only[go_sem];refine oW (E9 a.src (k) (by omega) (by omega)) trivial ?_;simp only[go_sem];refine⟨(a.src.marks (k)).cells,rfl,oO ?_⟩;simp only[go_sem];refine oW (E9 a.aJ (k+a.src.aT) (by omega) (by omega)) trivial ?_;simp only[go_sem];refine⟨(a.aJ.marks (k+a.src.aT)).cells,rfl,oO ?_⟩;simp only[go_sem];refine fc (jU a.ei (k+a.src.aT+a.aJ.aT) (by omega) (by omega)) trivial ?_;simp only[go_sem];refine⟨_,ints (cH (k+a.src.aT+a.aJ.aT) a.ei.length),rfl,rfl,rfl,?_⟩;refine fc (jU a.cw (k+a.src.aT+a.aJ.aT+a.ei.length) (by omega) (by omega)) trivial ?_;simp only[go_sem];refine⟨_,ints (cH (k+a.src.aT+a.aJ.aT+a.ei.length) a.cw.length),rfl,rfl,rfl,?_⟩;exact⟨by simp only[Int.natCast_add,Int.add_assoc],rfl⟩
def zF:List Nat:=[0,1,4,2]
def Gy:Sl:=ae Go.Proofs.Tryz.types Go.Proofs.Tryz.f14 zF []
theorem Oa:aD Go.Proofs.Tryz.prog Go.Proofs.Tryz.f14 zF Gy 2=true:=by decide +kernel
theorem E8(a:a6)(k:Int)(h0 : 0<=k)(h1:k+a.aT<=4611686018427387900):al Go.Proofs.Tryz.prog 14 [.v (a6.d (a.marks k)),.v (.int .i64 k)] (.int .i64 (k+a.aT)):=by
 unfold a6.aT at h1|-
 refine aA Go.Proofs.Tryz.func14 Oa ?_;unfold Gy ae zF;simp only[go_sem];refine ak (E7 a.src (k) (by omega) (by omega)) rfl (.inl rfl) ?_;simp only[go_sem];refine⟨fun hh=>by omega,fun _=>?_⟩;refine ak (E7 a.aJ (k+a.src.aT) (by omega) (by omega)) rfl (.inl rfl) ?_;simp only[go_sem];refine⟨fun hh=>by omega,fun _=>?_⟩;refine ak (pF a.ei.length (k+a.src.aT+a.aJ.aT) (by omega) (by omega)) rfl (.inl rfl) ?_;simp only[go_sem];refine⟨fun hh=>by omega,fun _=>?_⟩;refine ak (pF a.cw.length (k+a.src.aT+a.aJ.aT+a.ei.length) (by omega) (by omega)) rfl (.inl rfl) ?_;simp only[go_sem];refine⟨fun hh=>by omega,fun _=>?_⟩;simp only[Int.natCast_add,Int.add_assoc]
end Go.D3
namespace Go.D3
open Go
set_option maxHeartbeats 4000000
set_option maxRecDepth 100000
section
variable{α:Type}{mk:Int->α->α}{c:α->Nat}{d:α}{k:Int}{a:List α}{i:Nat}
def cz(c:α->Nat)(a:List α)(i:Nat):Nat:=((a.take i).map c).sum
theorem JT:cz c a 0=0:=by simp[cz]
theorem JS(h:i<a.length):cz c a (i+1)=cz c a i+c (a.getD i d):=pP h d
theorem JR(_:i<a.length):cz c a (i+1)<=cz c a a.length:=by
 unfold cz;rw[List.take_length];exact yr _
def kG(mk:Int->α->α)(c:α->Nat)(d:α)(k:Int)(a:List α):List α:=(List.range a.length).map fun j=>mk (k+cz c a j) (a.getD j d)
def eR(mk:Int->α->α)(c:α->Nat)(d:α)(k:Int)(a:List α)(i:Nat):List α:=((List.range i).map fun j=>mk (k+cz c a j) (a.getD j d))++a.drop i
theorem Mb:eR mk c d k a 0=a:=by simp[eR]
theorem Dg(h:i<=a.length):(eR mk c d k a i).length=a.length:=by simp[eR];omega
theorem L9(_:i<a.length):(eR mk c d k a i).getD i d=a.getD i d:=by
 unfold eR;rw[List.getD_eq_getElem?_getD,List.getElem?_append_right (by simp),List.length_map,List.length_range,Nat.sub_self,List.getElem?_drop,Nat.add_zero,<-List.getD_eq_getElem?_getD]
theorem Ma(h:i<a.length):(eR mk c d k a i).set i (mk (k+cz c a i) (a.getD i d))=eR mk c d k a (i+1):=by
 unfold eR;rw[List.set_append_right _ _ (by simp),List.range_succ,List.map_append];simp only[List.length_map,List.length_range,Nat.sub_self,List.map_cons,List.map_nil,List.append_assoc];congr 1;rw[List.drop_eq_getElem_cons h];rfl
theorem L8(h:¬i<a.length)(hi:i<=a.length):eR mk c d k a i=kG mk c d k a:=by
 have:i=a.length:=by omega
 subst this;simp[eR,kG]
end
theorem vX{α:Type}{d:α}{l:List α}{i:Nat}{x:α}(h:i<l.length):(l.set i x).getD i d=x:=by
 rw[List.getD_eq_getElem?_getD,List.getElem?_set_self h];rfl
def Pth.bH(x:Pth):Nat:=1+x.ed.length
def Pth.fB(k:Int)(x:Pth):Pth:=⟨k,cH (k+1) x.ed.length⟩
theorem Cf{l:List Pth}{i:Nat}{st:Int}{ed:List (Int)}:D.slice (.agg [.int .i64 Pth.zero.st,ints Pth.zero.ed]) ((l.map Pth.d).set i (.agg [.int .i64 st,ints ed]))=U Pth.d Pth.zero (l.set i ⟨st,ed⟩):=wb (f:=Pth.d) (d:=Pth.zero) (x:=⟨st,ed⟩)
def zN:List Nat:=[0,1,4,5]
def GG:Sl:=ae Go.Proofs.Tryz.types Go.Proofs.Tryz.f39 zN [(2,38)]
theorem Oh:aD Go.Proofs.Tryz.prog Go.Proofs.Tryz.f39 zN GG 2=true:=by decide +kernel
theorem xH(a:List Pth)(k:Int)(h0 : 0<=k)(h1:k+cz Pth.bH a a.length<=4611686018427387900):al Go.Proofs.Tryz.prog 39 [.io (.o (U Pth.d Pth.zero a)) (.o (U Pth.d Pth.zero (kG Pth.fB Pth.bH Pth.zero k a))),.v (.int .i64 k)] (.int .i64 (k+cz Pth.bH a a.length)):=by
 refine eI fun hw=>?_
 simp only[c7,eL] at hw;have hm:a.length<=maxLen:=hw.1.1;refine aA Go.Proofs.Tryz.func39 Oh ?_;unfold GG ae zN;simp only[go_sem];refine aI [] (fun(i:Nat)=>[(1,.int .i64 (k+cz Pth.bH a i)),(3,.int .i64 i),(4,.o (U Pth.d Pth.zero (eR Pth.fB Pth.bH Pth.zero k a i)))]) (fun i=>i<=a.length) (fun i=>a.length-i) 0 (by simp only[go_sem];rfl) (Nat.zero_le _) ?_ ?_
 ·simp only[go_sem,Mb,JT];simp
 rintro i hi;by_cases h:i<a.length
 rotate_left
 ·simp only[go_sem]
  rw[Dg hi];exact⟨fun hh=>absurd hh h,fun _=>⟨by rw[show i=a.length by omega],by rw[L8 h hi]⟩⟩
 have hc:cz Pth.bH a (i+1)<=cz Pth.bH a a.length:=JR h;have hl:i<(eR Pth.fB Pth.bH Pth.zero k a i).length:=by rw[Dg hi];exact h
 have hz:(eR Pth.fB Pth.bH Pth.zero k a i).getD i Pth.zero=a.getD i Pth.zero:=L9 h;have hget:∀x,((eR Pth.fB Pth.bH Pth.zero k a i).set i x).getD i Pth.zero=x:=fun x=>vX hl
 have hset:(eR Pth.fB Pth.bH Pth.zero k a i).set i (Pth.fB (k+cz Pth.bH a i) (a.getD i Pth.zero))=eR Pth.fB Pth.bH Pth.zero k a (i+1):=Ma h;have hcs:cz Pth.bH a (i+1)=cz Pth.bH a i+Pth.bH (a.getD i Pth.zero):=JS h;have hhn : 0<=k+cz Pth.bH a i:=by omega
 have hend:k+cz Pth.bH a (i+1)=(k+cz Pth.bH a i)+Pth.bH (a.getD i Pth.zero):=by omega
 have hbd:(k+cz Pth.bH a i)+Pth.bH (a.getD i Pth.zero)<=4611686018427387900:=by omega
 clear hcs hc;generalize hK:k+cz Pth.bH a i=K at hset hhn hend hbd|-
 generalize eR Pth.fB Pth.bH Pth.zero k a i=q at hl hz hget hset|-
 generalize a.getD i Pth.zero=x at hz hset hend hbd;generalize hKe:k+cz Pth.bH a (i+1)=K2 at hend;unfold Pth.bH at hbd hend;simp only[go_sem,Cf,vX,hz,hl,List.length_set];rw[wrap_small (by omega) (by omega)];refine fc (jU x.ed (K+1) (by omega) (by omega)) trivial ?_;simp only[go_sem,vX,hl,List.set_set,List.length_set,List.length_map];refine⟨_,ints (cH (K+1) x.ed.length),rfl,rfl,rfl,?_⟩;simp only[go_sem,Cf,List.set_set];refine⟨i+1,by omega,by omega,?_⟩;rw[aH h hm,<-hset,hKe,hend];unfold Pth.fB;simp only[Int.natCast_add,Int.natCast_one,Int.add_assoc]
def Sch.marks(k:Int)(a:Sch):Sch:={ a with fr:=cH (k) a.fr.length,to:=cH (k+a.fr.length) a.to.length,lf:=kG Pth.fB Pth.bH Pth.zero (k+a.fr.length+a.to.length) a.lf,rt:=kG Pth.fB Pth.bH Pth.zero (k+a.fr.length+a.to.length+cz Pth.bH a.lf a.lf.length) a.rt }
def Sch.aT(a:Sch):Nat:=a.fr.length+a.to.length+cz Pth.bH a.lf a.lf.length+cz Pth.bH a.rt a.rt.length
def zO:List Nat:=[0,1,4,2]
def GH:Sl:=ae Go.Proofs.Tryz.types Go.Proofs.Tryz.f37 zO [(2,38),(2,39),(9,2)]
theorem Oi:aD Go.Proofs.Tryz.prog Go.Proofs.Tryz.f37 zO GH 2=true:=by decide +kernel
theorem Fa(a:Sch)(k:Int)(h0 : 0<=k)(h1:k+a.aT<=4611686018427387900):al Go.Proofs.Tryz.prog 37 [.io (.o (Sch.d a)) (.o (Sch.d (a.marks k))),.v (.int .i64 k)] (.int .i64 (k+a.aT)):=by
 unfold Sch.aT at h1|-
 refine aA Go.Proofs.Tryz.func37 Oi ?_;unfold GH ae zO;simp only[go_sem];refine fc (jU a.fr (k) (by omega) (by omega)) trivial ?_;simp only[go_sem];refine⟨_,ints (cH (k) a.fr.length),rfl,rfl,rfl,?_⟩;refine fc (jU a.to (k+a.fr.length) (by omega) (by omega)) trivial ?_;simp only[go_sem];refine⟨_,ints (cH (k+a.fr.length) a.to.length),rfl,rfl,rfl,?_⟩;refine fc (xH a.lf (k+a.fr.length+a.to.length) (by omega) (by omega)) trivial ?_;simp only[go_sem];refine⟨_,U Pth.d Pth.zero (kG Pth.fB Pth.bH Pth.zero (k+a.fr.length+a.to.length) a.lf),rfl,rfl,rfl,?_⟩;refine fc (xH a.rt (k+a.fr.length+a.to.length+cz Pth.bH a.lf a.lf.length) (by omega) (by omega)) trivial ?_;simp only[go_sem];refine⟨_,U Pth.d Pth.zero (kG Pth.fB Pth.bH Pth.zero (k+a.fr.length+a.to.length+cz Pth.bH a.lf a.lf.length) a.rt),rfl,rfl,rfl,?_⟩;exact⟨by simp only[Int.natCast_add,Int.add_assoc],rfl⟩
def Smp.marks(k:Int)(a:Smp):Smp:={ a with src:=a.src.marks (k),aJ:=a.aJ.marks (k+a.src.aT),bq:=cH (k+a.src.aT+a.aJ.aT) a.bq.length,bh:=kG Pth.fB Pth.bH Pth.zero (k+a.src.aT+a.aJ.aT+a.bq.length) a.bh }
def Smp.aT(a:Smp):Nat:=a.src.aT+a.aJ.aT+a.bq.length+cz Pth.bH a.bh a.bh.length
def zP:List Nat:=[0,1,4,2]
def GI:Sl:=ae Go.Proofs.Tryz.types Go.Proofs.Tryz.f12 zP [(2,37),(2,38),(2,39),(9,2)]
theorem Oj:aD Go.Proofs.Tryz.prog Go.Proofs.Tryz.f12 zP GI 2=true:=by decide +kernel
theorem Ro(a:Smp)(k:Int)(h0 : 0<=k)(h1:k+a.aT<=4611686018427387900):al Go.Proofs.Tryz.prog 12 [.io (.o (Smp.d a)) (.o (Smp.d (a.marks k))),.v (.int .i64 k)] (.int .i64 (k+a.aT)):=by
 unfold Smp.aT at h1|-
 refine aA Go.Proofs.Tryz.func12 Oj ?_;unfold GI ae zP;simp only[go_sem];refine oW (Fa a.src (k) (by omega) (by omega)) trivial ?_;simp only[go_sem];refine⟨(a.src.marks (k)).cells,rfl,oO ?_⟩;simp only[go_sem];refine oW (Fa a.aJ (k+a.src.aT) (by omega) (by omega)) trivial ?_;simp only[go_sem];refine⟨(a.aJ.marks (k+a.src.aT)).cells,rfl,oO ?_⟩;simp only[go_sem];refine fc (jU a.bq (k+a.src.aT+a.aJ.aT) (by omega) (by omega)) trivial ?_;simp only[go_sem];refine⟨_,ints (cH (k+a.src.aT+a.aJ.aT) a.bq.length),rfl,rfl,rfl,?_⟩;refine fc (xH a.bh (k+a.src.aT+a.aJ.aT+a.bq.length) (by omega) (by omega)) trivial ?_;simp only[go_sem];refine⟨_,U Pth.d Pth.zero (kG Pth.fB Pth.bH Pth.zero (k+a.src.aT+a.aJ.aT+a.bq.length) a.bh),rfl,rfl,rfl,?_⟩;exact⟨by simp only[Int.natCast_add,Int.add_assoc],rfl⟩
end Go.D3
