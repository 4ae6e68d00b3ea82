/- CONTRACTS: the category of a comma: the program's side. -/
import Derived.Test.YtaknpcdnmecblaaGAM
import Derived.Test.YtaknpcdnmecblaaGAJ
import Derived.Test.YtaknpcdnmecblaaGAP
namespace Go.D3
open Go Proofs
set_option maxHeartbeats 4000000
set_option maxRecDepth 100000
def ja(c:Cat):List D:=[.ptr (aL c).cells,.ptr (aL c).cells,aB (ah c),aB (an c)]
def mL(c:Cat)(n:Nat):List (List UInt8×Int):=j5 (fun j=>ie [(an c).getD j []]) n
theorem lX{c:Cat}(hfr:c.fr.length<=40)(h8:(ah c).length<=8){e:List Int}(he:e∈an c):iC e/\e.length=4:=by
 obtain⟨s,t,u,v,k⟩:=nr.1 he;obtain⟨u1,u2,_⟩:=Cat.cU.1 k.u0;obtain⟨v1,v2,_⟩:=Cat.cU.1 k.v0;have h1:=k.s0;have h2:=k.t0;rw[k.eq];refine⟨fun x hx=>?_,rfl⟩;simp only[List.mem_cons,List.not_mem_nil,or_false] at hx;rcases hx with rfl | rfl | rfl | rfl<;>omega
theorem Bn{a b:List Int}(ha:iC a)(hb:iC b)(h:ie [a]=ie [b]):a=b:=HP ha hb (by simpa[ie] using h)
theorem lV{c:Cat}{i:Nat}(h:i<(an c).length):(an c).getD i []∈an c:=by rw[bT h];exact List.getElem_mem h
theorem LP{c:Cat}(hfr:c.fr.length<=40)(h8:(ah c).length<=8){n:Nat}(hn:n<(an c).length):fW (mL c n) (ie [(an c).getD n []]) (n:Int)=mL c (n+1):=by
 refine LW (ks:=fun j=>ie [(an c).getD j []]) fun j hj e=>?_
 have hj':j<(an c).length:=by omega
 have:=Bn (lX hfr h8 (lV hj')).1 (lX hfr h8 (lV hn)).1 e;rw[bT hj',bT hn] at this;have:=(List.getElem_inj zj).1 this;omega
theorem CI{c:Cat}(hfr:c.fr.length<=40)(h8:(ah c).length<=8){e:List Int}(he:e∈an c):mz (mL c (an c).length) (ie [e]) 0=dK (an c) e:=by
 obtain⟨i,hi,rfl,h⟩:=LX he;rw[h];refine LU (ks:=fun j=>ie [(an c).getD j []]) hi (fun j hj e=>?_) 0;have:=Bn (lX hfr h8 (lV hj)).1 (lX hfr h8 (lV hi)).1 e;rw[bT hj,bT hi] at this;exact(List.getElem_inj zj).1 this
abbrev Jj(c:Cat)(n:Nat):D:=.box [.o (br D.str (D.int .i64) (mL c n))]
abbrev Fe(ob:Int)(fr to aK:List Int)(co:List (List Int))(ms:List (List UInt8×Int))(X:List D):List D:=[kB ob fr to aK co,.box [.o (br D.str (D.int .i64) ms)],.box [.ptr X],.box [.ptr X]]
def xZ:List Nat:=[0,1,4,5,6,18,19,37,38]
def DQ:Sl:=al Try.types Try.f40 xZ []
theorem Kb:aX Try.prog Try.f40 xZ DQ 2=true:=by decide +kernel
theorem MU(ob:Int)(fr to aK:List Int)(ms:List (List UInt8×Int))(X k:List D)(hX:stripL X=X)(hk:stripL k=k)(fn:FuncId)(cf:Nat->Nat->Int)(hn:fr.length<=1048576)(hto:to.length=fr.length)(hb:fy Try.prog fn=true)
  (hc:∀(f g:Nat),f<fr.length->g<fr.length->to.getD f 0=fr.getD g 0->aD Try.prog fn [.v (.int .i64 f),.v (.int .i64 g),.v (.ptr [.ptr k]),.v (.ptr [br D.str (D.int .i64) ms]),.v (.ptr [.ptr X]),.v (.ptr [.ptr X])] (.int .i64 (cf f g))) :
  km Try.prog 40 [.aq 0 [(0,0)],.fn fn [.ptr [.ptr k],.aq 1 [(0,0)],.aq 2 [(0,0)],.aq 3 [(0,0)]]] (Fe ob fr to aK [] ms X) (.o (.au [])) (Fe ob fr to aK (fw fr to cf fr.length fr.length) ms X):=by
 refine Ma .tree Try.func40 Kb ?_;unfold DQ al xZ;simp only[go_sem];refine aC (sY ⟨ob,fr,to,aK,[]⟩) rfl (.inl rfl) ?_;simp only[go_sem];refine⟨by omega,?_⟩;refine ba [3,4,7,8] (fun(f:Nat)=>[(6,.int .i64 f),(9,kB ob fr to aK (fw fr to cf f fr.length))]) (fun f=>f<=fr.length) (fun f=>fr.length-f) 0 (by simp only[go_sem];rfl) (Nat.zero_le _) ?_ ?_
 ·simp only[go_sem,Ox];rfl
 intro f hf;simp only[go_sem,xL,List.length_replicate];refine⟨fun h1=>?_,fun h1=>?_⟩
 ·have htl:∀r,((fw fr to cf f fr.length).set f r).length=fr.length:=fun r=>by rw[List.length_set,xL]
  have hgr:∀r,((fw fr to cf f fr.length).set f r).getD f []=r:=fun r=>NV (by rw[xL];exact h1)
  simp only[htl,hgr,List.length_replicate];refine⟨⟨Nat.le_refl _,by omega⟩,h1,h1,h1,?_⟩;refine ba [4] (fun(g:Nat)=>[(8,.int .i64 g),(9,kB ob fr to aK ((fw fr to cf f fr.length).set f (gA fr to cf f g fr.length)))]) (fun g=>g<=fr.length) (fun g=>fr.length-g) 0 (by simp only[go_sem];rfl) (Nat.zero_le _) ?_ ?_
  ·simp only[go_sem,Nz];rfl
  intro g hg;simp only[go_sem,htl,hgr,List.set_set,DE,List.length_replicate];refine⟨fun h2=>?_,fun h2=>?_⟩
  ·have hwg:=aU h2 (show fr.length<=maxLen by simp only[maxLen];omega)
   refine⟨h1,h2,⟨h1,h2⟩,by omega,h2,fun he=>?_,fun he=>?_⟩
   ·have hcall:=hc f g h1 h2 he
    have aI:stripL [.int .i64 f,.int .i64 g,.ptr [.ptr k],.ptr [br D.str (D.int .i64) ms],.ptr [.ptr X],.ptr [.ptr X]]=[.int .i64 f,.int .i64 g,.ptr [.ptr k],.ptr [br D.str (D.int .i64) ms],.ptr [.ptr X],.ptr [.ptr X]]:=by
     simp only[stripL,D.strip,hX,hk,br]
    have hse:=DF (fr:=fr) (to:=to) (cf:=cf) (f:=f) (n:=g) (N:=fr.length) (v:=cf f g) (by rw[if_pos he])
    with_reducible (repeat' apply And.intro)
    all_goals(first
     | exact h1
     | (refine LB rfl aI hb hcall rfl ?_
        simp only[go_sem,htl,hgr,List.set_set,DE,List.length_set]
        with_reducible (repeat' apply And.intro)
        all_goals(first | exact h1 | exact h2 | exact⟨g+1,h2,by omega,by rw[<-hse,hwg]⟩)))
   ·exact⟨g+1,h2,by omega,by rw[DF (by rw[if_neg (beq_eq_false_iff_ne.1 he)]),hwg]⟩
  ·obtain rfl:g=fr.length:=by omega
   exact⟨f+1,h1,by omega,by rw[Ow,aU h1 (by simp only[maxLen];omega)]⟩
 ·obtain rfl:f=fr.length:=by omega
  exact⟨rfl,rfl⟩
theorem E7{α:Type}{f:α->D}{d:α}(h:∀a,(f a).strip=f a)(l:List α):(ak f d l).strip=ak f d l:=by
 unfold ak;simp only[D.strip,oG,List.map_map,h];congr 1;exact List.map_congr_left fun a _=>h a
theorem xF(l:List Int):(ints l).strip=ints l:=E7 (fun _=>rfl) l
theorem E6(l:List (List Int)):(aB l).strip=aB l:=E7 (fun l=>xF l) l
theorem HZ(c:Cat):stripL (ja c)=ja c:=by simp only[ja,stripL,D.strip,aL,bP.cells,xF,E6]
theorem N8(c:Cat):stripL (aL c).cells=(aL c).cells:=by simp only[stripL,D.strip,aL,bP.cells,xF,E6]
theorem I0{α β:Type}{ob:Nat->D}{f:α->D}{g:β->D}{l:List (α×β)}:mapOf ob (br f g l)=some (mK f l,mV g l):=rfl
def ya:List Nat:=[0,1,2,3,4,5,8,9,10]
def DW:Sl:=al Try.types Try.f41 ya []
theorem Kh:aX Try.prog Try.f41 ya DW 6=true:=by decide +kernel
theorem MM(c:Cat)(hb:c.cZ=true)(h8:(ah c).length<=8)(_:(an c).length<=40)(i j:Nat)(hi:i<(an c).length)(hj:j<(an c).length)(he:((an c).getD i []).getD 1 0=((an c).getD j []).getD 0 0) :
  aD Try.prog 41 [.v (.int .i64 i),.v (.int .i64 j),.v (.ptr [.ptr (ja c)]),.v (.ptr [br D.str (D.int .i64) (mL c (an c).length)]),.v (.ptr [.ptr (aL c).cells]),.v (.ptr [.ptr (aL c).cells])] (.int .i64 (fx c i j)):=by
 obtain⟨hc,-,-⟩:=fS hb;have hfr:=hc.fr;have hco:=hc.co;obtain⟨s,t,u,v,k1⟩:=oV hi;obtain⟨s',t',u',v',k2⟩:=oV hj;have hin:=FN hb (lV hi) (lV hj) he
 have hm:∀l∈[nw c ((an c).getD i []) ((an c).getD j [])],iC l/\l.length<=64:=fun l hl=>by
  rw[List.mem_singleton] at hl;have h4:=lX hfr h8 hin;rw[hl];exact⟨h4.1,by omega⟩
 have hg:=CI hfr h8 hin;have hX:fx c i j=dK (an c) (nw c ((an c).getD i []) ((an c).getD j [])):=by unfold fx;rw[if_pos he]
 obtain⟨u1,u2,_⟩:=Cat.cU.1 k1.u0;obtain⟨v1,v2,_⟩:=Cat.cU.1 k1.v0;obtain⟨u3,u4,_⟩:=Cat.cU.1 k2.u0;obtain⟨v3,v4,_⟩:=Cat.cU.1 k2.v0;have r1:=hc.iA u1 u2;have r2:=hc.iA v1 v2;rw[hX];rw[k1.eq,k2.eq] at hm hg|-
 simp only[nw,List.getD_cons_zero,List.getD_cons_succ] at hm hg|-
 simp only[ja,aL,bP.cells];refine a7 Try.func41 Kh ?_;unfold DW al ya;simp only[go_sem];simp only[k1.eq,k2.eq];refine⟨hi,hj,by simp,by simp,by simp,by simp,l8 (bs:=[_,_,_]) (qv c u u' u1 (by omega) u3 (by omega)) rfl ⟨.inr ⟨5,_,rfl,rfl⟩,.inl rfl,.inl rfl,trivial⟩ (.inl rfl) ?_⟩;simp only[go_sem];refine⟨by simp,by simp,l8 (bs:=[_,_,_]) (qv c v v' v1 (by omega) v3 (by omega)) rfl ⟨.inr ⟨5,_,rfl,rfl⟩,.inl rfl,.inl rfl,trivial⟩ (.inl rfl) ?_⟩;simp only[go_sem];refine aC (wW [[(s:Int),(t':Int),c.aG u u',c.aG v v']] hm (by simp)) rfl (.inl rfl) ?_;simp only[go_sem,I0];rw[hg]
def x9:List Nat:=[0,2,1,3,4,5,6,7,8,9,10,27,28,29,71,72,73]
def DV:Sl:=al Try.types Try.f21 x9 [(0,40)]
theorem Kg:aX Try.prog Try.f21 x9 DV 1=true:=by decide +kernel
theorem MY(c:Cat)(hb:c.cZ=true)(h8:(ah c).length<=8)(h40:(an c).length<=40):aD Try.prog 21 [.v (.ptr (ja c))] (fe c).d:=by
 obtain⟨hc,-,-⟩:=fS hb;have hfr:=hc.fr;simp only[ja,aL,bP.cells];refine a7 Try.func21 Kg ?_;unfold DV al x9;simp only[go_sem];refine⟨⟨Nat.le_refl _,by omega⟩,?_⟩;refine ba [5,6] (fun i:Nat=>[(13,.int .i64 i),(3,kB (ah c).length (cE c 0 i) (cE c 1 i) (List.replicate (ah c).length 0) []),(4,Jj c i)]) (fun i=>i<=(an c).length) (fun i=>(an c).length-i) 0 (by simp only[go_sem];rfl) (Nat.zero_le _) rfl ?_;intro i hi;have l0:=@qT c 0 i;have l1:=@qT c 1 i;simp only[go_sem];refine⟨fun h=>⟨h,?_⟩,fun h=>?_⟩
 ·have h4:=lX hfr h8 (lV h)
  have hm:∀l∈[(an c).getD i []],iC l/\l.length<=64:=fun l hl=>by
   rw[List.mem_singleton] at hl;rw[hl];exact⟨h4.1,by omega⟩
  refine aC (wW [(an c).getD i []] hm (by simp)) rfl (.inl rfl) ?_;simp only[go_sem];rw[LP hfr h8 h];refine⟨by unfold mL;rw[LV];simp only[maxLen];omega,by omega,by omega,by omega,by omega,i+1,by omega,by omega,?_⟩;rw[aU h (by simp only[maxLen];omega),qU h,qU h]
 obtain rfl:i=(an c).length:=by omega
 have hI:((List.range (ah c).length).map fun x=>dK (an c) (dE c x)).length=(ah c).length:=by simp
 refine ba [9,10] (fun x:Nat=>[(16,.int .i64 x),(3,kB (ah c).length (cE c 0 (an c).length) (cE c 1 (an c).length) (cQ ((List.range (ah c).length).map fun x=>dK (an c) (dE c x)) 0 x) [])]) (fun x=>x<=(ah c).length) (fun x=>(ah c).length-x) 0 (by simp only[go_sem];rfl) (Nat.zero_le _) ?_ ?_
 ·simp only[go_sem,rn,hI];rfl
 intro x hx;simp only[go_sem];refine⟨fun h=>⟨h,?_⟩,fun h=>?_⟩
 ·obtain⟨a1,b1,g1,o1⟩:=gR h
  have a0:=o1.a0;have b0:=o1.b0;have hidn:=hc.aK;have hin:=FK hb h;have hI2:dE c x=[(x:Int),(x:Int),c.aK.getD a1.toNat 0,c.aK.getD b1.toNat 0]:=by unfold dE Cat.fF;rw[o1.eq];rfl
  have e0:((ah c).getD x []).getD 0 0=a1:=by rw[o1.eq];rfl
  have e1:((ah c).getD x []).getD 1 0=b1:=by rw[o1.eq];rfl
  have e2:((ah c).getD x []).length=3:=by rw[o1.eq];rfl
  have hm:∀l∈[dE c x],iC l/\l.length<=64:=fun l hl=>by
   rw[List.mem_singleton] at hl;have h4:=lX hfr h8 hin;rw[hl];exact⟨h4.1,by omega⟩
  have hset:=rm (d:=0) (z:=0) (l:=(List.range (ah c).length).map fun x=>dK (an c) (dE c x)) (i:=x) (by rw[hI];exact h)
  have hget:((List.range (ah c).length).map fun x=>dK (an c) (dE c x)).getD x 0=dK (an c) (dE c x):=by
   rw[List.getD_eq_getElem?_getD,List.getElem?_map,List.getElem?_range h];rfl
  rw[hget] at hset;have hcl:(cQ ((List.range (ah c).length).map fun x=>dK (an c) (dE c x)) 0 x).length=(ah c).length:=by rw[l9 (by rw[hI];omega),hI]
  simp only[e0,e1,e2];refine⟨by omega,by omega,by omega,by omega,aC (wW [dE c x] hm (by simp)) (by rw[hI2];rfl) (.inl rfl) ?_⟩;simp only[go_sem];refine⟨by rw[hcl];exact h,by rw[hcl];exact h,x+1,by omega,by omega,?_⟩;rw[CI hfr h8 hin,hset,aU h (by simp only[maxLen];omega)]
 obtain rfl:x=(ah c).length:=by omega
 rw[rl (by rw[hI];omega)];have hfl:(cE c 0 (an c).length).length=(an c).length:=by rw[iH,List.length_map]
 have htl:(cE c 1 (an c).length).length=(cE c 0 (an c).length).length:=by rw[hfl,iH,List.length_map]
 have hT:=MU (ah c).length (cE c 0 (an c).length) (cE c 1 (an c).length) ((List.range (ah c).length).map fun x=>dK (an c) (dE c x)) (mL c (an c).length) (aL c).cells (ja c) (N8 c) (HZ c) 41 (fx c) (by omega) htl (by decide +kernel) fun f g hf hg he=>by
  rw[hfl] at hf hg;refine MM c hb h8 h40 f g hf hg ?_;rw[iH,iH] at he
  rwa [nW hf,nW hg] at he
 refine Hj [3,4,7,8] false hT ?_;simp only[go_sem]
 have htab:fw (cE c 0 (an c).length) (cE c 1 (an c).length) (fx c) (an c).length (an c).length=lW c:=by
  unfold fw lW;refine List.map_congr_left fun i hi=>?_
  rw[if_pos (List.mem_range.1 hi)];unfold gA;refine List.map_congr_left fun g hg=>?_
  rw[if_pos (List.mem_range.1 hg),iH,iH,nW (List.mem_range.1 hi),nW (List.mem_range.1 hg)];split
  ·rfl
  ·rename_i hne
   unfold fx;rw[if_neg hne]
 rw[hfl,htab,iH,iH];rfl
theorem JX(c:Cat):(fe c).d.bp=true:=eM _
end Go.D3
