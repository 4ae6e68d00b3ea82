/- CONTRACTS: functors of maps of schemas: the reference's side. -/
import Derived.Test.YtpnchponfnbmiaaGreatDoorGAC
import Derived.Test.YtpnchponfnbmiaaGreatDoorHG
import Derived.Test.YtpnchponfnbmiaaGreatDoorGAF
namespace Go.D3
open Go
set_option maxHeartbeats 4000000
set_option maxRecDepth 100000
set_option maxHeartbeats 1000000
theorem Nb(s:Sch):s.fU=!(!bm s.nd 0 8 || decide ((8:Int)<(s.fr.length:Int)) || ((s.to.length:Int) != (s.fr.length:Int)) || !cL s.nd s.fr || !cL s.nd s.to):=by
 unfold Sch.fU;have a1:decide (s.fr.length<=8)=!decide ((8:Int)<(s.fr.length:Int)):=by rw[<-decide_not];exact decide_eq_decide.2 (by omega)
 have a2:decide (s.to.length=s.fr.length)=!((s.to.length:Int) != (s.fr.length:Int)):=by
  by_cases h:s.to.length=s.fr.length<;>simp[h]<;>omega
 rw[a1,a2];cases bm s.nd 0 8<;>cases decide ((8:Int)<(s.fr.length:Int))<;>cases((s.to.length:Int) != (s.fr.length:Int))<;>cases cL s.nd s.fr<;>cases cL s.nd s.to<;>rfl
theorem Nc(s:Sch):s.gV=!(decide ((8:Int)<(s.lf.length:Int)) || ((s.rt.length:Int) != (s.lf.length:Int))):=by
 unfold Sch.gV;have a1:decide (s.lf.length<=8)=!decide ((8:Int)<(s.lf.length:Int)):=by rw[<-decide_not];exact decide_eq_decide.2 (by omega)
 have a2:decide (s.rt.length=s.lf.length)=!((s.rt.length:Int) != (s.lf.length:Int)):=by
  by_cases h:s.rt.length=s.lf.length<;>simp[h]<;>omega
 rw[a1,a2,Bool.not_or]
def z6:List Nat:=[0,2,1,3,4,5]
def GU:Sl:=ae Go.Proofs.Tryz.types Go.Proofs.Tryz.f79 z6 []
theorem Oz:aD Go.Proofs.Tryz.prog Go.Proofs.Tryz.f79 z6 GU 1=true:=by decide +kernel
theorem Ff(s:Sch):al Go.Proofs.Tryz.prog 79 [.v (Sch.d s)] (.bool s.ok):=by
 refine eI fun hw=>?_
 simp only[c7,eL,Sch.d,Sch.cells,D.dx,gh] at hw;have hl:s.lf.length<=maxLen:=hw.1.2.2.2.1.1;refine aA Go.Proofs.Tryz.func79 Oz ?_;unfold GU ae z6;simp only[go_sem];refine ak (xK _ _ _) rfl (.inl rfl) ?_;simp only[go_sem];refine⟨fun h=>by simpa using h,(fun h=>by simp only[Bool.or_eq_false_iff,Bool.and_eq_true,Bool.not_eq_true',Bool.not_eq_false'] at h|-;exact h),?_⟩;refine bO (fun _=>pG s.nd s.fr) rfl (fun h=>h) (.inl rfl) ?_;simp only[go_sem];refine⟨(fun h=>by simp only[Bool.or_eq_false_iff,Bool.and_eq_true,Bool.not_eq_true',Bool.not_eq_false'] at h|-;exact h),?_⟩;refine bO (fun _=>pG s.nd s.to) rfl (fun h=>h) (.inl rfl) ?_;simp only[go_sem];have e1:=Nb s;have e2:=Nc s;refine⟨(fun h=>by simp only[Bool.or_eq_false_iff,Bool.and_eq_true,Bool.not_eq_true',Bool.not_eq_false'] at h|-;exact h),(fun h=>by simp only[Bool.or_eq_false_iff,Bool.and_eq_true,Bool.not_eq_true',Bool.not_eq_false'] at h|-;exact h),(fun h=>by simp only[Bool.or_eq_false_iff,Bool.and_eq_true,Bool.not_eq_true',Bool.not_eq_false'] at h|-;exact h),fun h=>?_,fun h=>?_⟩
 ·unfold Sch.ok
  rw[e1,e2];generalize bm s.nd 0 8=x1 at h|-
  generalize decide ((8:Int)<(s.fr.length:Int))=x2 at h|-
  generalize((s.to.length:Int) != (s.fr.length:Int))=x3 at h|-
  generalize cL s.nd s.fr=x4 at h|-
  generalize cL s.nd s.to=x5 at h|-
  generalize decide ((8:Int)<(s.lf.length:Int))=x6 at h|-
  generalize((s.rt.length:Int) != (s.lf.length:Int))=x7 at h|-
  cases x1<;>cases x2<;>cases x3<;>cases x4<;>cases x5<;>cases x6<;>cases x7<;>first | rfl | cases h
 have e1':s.fU=true:=by rw[e1];simp only[Bool.or_eq_false_iff] at h;simp only[h.1.1.1.1.1.1,h.1.1.1.1.1.2,h.1.1.1.1.2,h.1.1.1.2,h.1.1.2];rfl
 have e2':s.gV=true:=by rw[e2];simp only[Bool.or_eq_false_iff] at h;simp only[h.1.2,h.2];rfl
 clear h e1 e2;have hs:=ga e1';have hto:=hs.to;have hn:=hs.n0;have hrt:s.rt.length=s.lf.length:=by have:=e2';simp[Sch.gV] at this;exact this.2
 refine aI [4,5] (fun(i:Nat)=>[(3,.int .i64 i)]) (fun i=>i<=s.lf.length/\s.eqs i=true) (fun i=>s.lf.length-i) 0 (by simp only[go_sem];rfl) ⟨Nat.zero_le _,rfl⟩ rfl ?_;rintro i ⟨hi,ha⟩;simp only[go_sem];refine⟨fun h=>⟨h,by omega,ak (xM s (s.lf.getD i Pth.zero) hto hn) rfl (.inl rfl) ?_⟩,fun h=>?_⟩
 ·simp only[go_sem]
  refine bO (fun _=>xM s (s.rt.getD i Pth.zero) hto hn) rfl (fun h=>h) (.inl rfl) ?_;simp only[go_sem];have hE:=B1 (s:=s) (n:=i);unfold Sch.qo at hE
  have neg:s.eqs (i+1)=false->false=s.ok:=fun hf=>by
   unfold Sch.ok;rw[e1',e2'];symm;simp only[Bool.true_and];unfold Sch.eqs at hf|-
   rw[List.all_eq_false] at hf|-
   obtain⟨x,h1,h2⟩:=hf;exact⟨x,by rw[List.mem_range] at h1|-;omega,h2⟩
  rw[ha,Bool.true_and] at hE;refine⟨fun h=>by simpa using h,(fun h=>by simp only[Bool.or_eq_false_iff,Bool.and_eq_true,Bool.not_eq_false'] at h|-;exact h),?_⟩;have some1:∀{o:Option Int}{b:Bool},(o.isSome&&b)=true->o=some (o.getD 0):=fun {o b} h=>by cases o with | none=>cases h | some a=>rfl
  refine bO (fun hg=>me s (s.lf.getD i Pth.zero) ((s.aF (s.lf.getD i Pth.zero)).getD 0) hto (by rw[Bool.and_assoc] at hg;exact some1 hg)) rfl (fun h=>h) (.inl rfl) ?_;simp only[go_sem]
  refine bO (fun hg=>me s (s.rt.getD i Pth.zero) ((s.aF (s.rt.getD i Pth.zero)).getD 0) hto (by
   rw[Bool.and_eq_true,Bool.and_eq_true] at hg;exact some1 (b:=true) (by rw[hg.1.2];rfl))) rfl (fun h=>h) (.inl rfl) ?_
  simp only[go_sem];refine⟨(fun h=>by simp only[Bool.or_eq_false_iff,Bool.and_eq_true,Bool.not_eq_true',Bool.not_eq_false'] at h|-;exact h),fun h2=>neg ?_,fun h2=>⟨i+1,⟨h,?_⟩,by omega,by rw[aH h hl]⟩⟩
  ·rw[hE]
   generalize s.aF (s.lf.getD i Pth.zero)=A at h2;generalize s.aF (s.rt.getD i Pth.zero)=B at h2;cases A with
   | none=>rfl
   | some a =>
    cases B with
    | none=>rfl
    | some b =>
     rw[Bool.and_eq_false_iff];simp only[Option.isSome_some,Bool.not_true,Bool.false_or,Option.getD_some,Bool.or_eq_true,bne_iff_ne] at h2;exact h2.imp beq_eq_false_iff_ne.2 beq_eq_false_iff_ne.2
  ·rw[hE]
   generalize s.aF (s.lf.getD i Pth.zero)=A at h2;generalize s.aF (s.rt.getD i Pth.zero)=B at h2;cases A with
   | none=>cases h2
   | some a =>
    cases B with
    | none=>cases h2
    | some b =>
     simp only[Option.isSome_some,Bool.not_true,Bool.false_or,Option.getD_some,Bool.or_eq_false_iff,bne_eq_false_iff_eq] at h2;rw[Bool.and_eq_true];exact⟨beq_iff_eq.2 h2.1,beq_iff_eq.2 h2.2⟩
 ·rw[show i=s.lf.length by omega] at ha
  unfold Sch.ok;rw[e1',e2',ha];rfl
end Go.D3
namespace Go.D3
open Go
theorem Sa{left:Int}{n:Nat}(h0 : 0<=left)(h1:left<=1048576)(h : 0<=sb left n):n<=1048576/\0<=sb left n/\sb left n<=1048576:=by
 unfold sb at h|-
 split at h
 ·rename_i hh;rw[if_pos hh];omega
 ·omega
theorem lst_cellv0{α:Type}{f:α->D}{d:α}{l:List α}{k:Nat}{p:Path}:oB k p (U f d l)=U f d l:=rfl
theorem LX{α:Type}{f:α->D}{d:α}{l:List α}{i o:Nat}{y:D}:(U f d l).eu i o y=.slice (f d) ((l.map f).set i (dG (f (l.getD i d)) o y)):=C5
attribute [go_sem] lst_cellv0 LX
theorem L0{α:Type}{f:α->D}{d:α}{l:List α}{dn r:List D}{K:List D->St->Prop}{st:St}:eY dn (U f d l::r) K st=eY (dn++[U f d l]) r K st:=by
 have:eY dn (U f d l::r) K st=((U f d l).pc=true/\eY (dn++[U f d l]) r K st):=rfl;rw[this,C4];simp
attribute [go_sem ↓] L0
def AF(a d:D):Prop:=a=d\/∃n l,d=.ptr l/\a=.ptr (l.take n)
def p6:List D->List D->Prop
 | [],[]=>True
 | a::xs,d::ds=>AF a d/\p6 xs ds
 | _,_=>False
theorem Rd.wk{w:World}{A:Nat->Prop}{v:Value}{a d:D}(h:Rd w A v d)(hw:AF a d):Rd w A v a:=by
 rcases hw with rfl | ⟨n,l,rfl,rfl⟩
 ·exact h
 ·cases h with
  | ptr hA vs hc hr =>
   have key:∀(j:Nat)(x:D),(l.take n)[j]?=some x->l[j]?=some x:=fun j x hx=>by
    rw[List.getElem?_take] at hx;split at hx
    ·exact hx
    ·cases hx
   exact .ptr hA vs (fun j x hx=>hc j x (key j x hx)) fun j x hx=>hr j x (key j x hx)
theorem H5:∀{xs ds:List D},p6 xs ds->xs.length=ds.length
 | [],[],_=>rfl
 | _::_,_::_,h=>by simp only[List.length_cons,H5 h.2]
 | [],_::_,h=>h.elim
 | _::_,[],h=>h.elim
theorem H4:∀{xs ds:List D},p6 xs ds->∀{j:Nat}{a:D},xs[j]?=some a->∃d,ds[j]?=some d/\AF a d
 | [],_,_,j,a,hj=>by simp at hj
 | x::r,y::s,h,0,a,hj=>by
  simp only[List.getElem?_cons_zero,Option.some.injEq] at hj;exact⟨y,rfl,hj▸h.1⟩
 | x::r,y::s,h,j+1,a,hj=>by
  simp only[List.getElem?_cons_succ] at hj|-
  exact H4 h.2 hj
 | _::_,[],h,_,_,_=>h.elim
theorem Fo[Mode]{P:Program}{f:FuncId}{xs ds:List D}{res:D}(h:al P f (xs.map .v) res)(hw:p6 xs ds):al P f (ds.map .v) res:=by
 intro w A vs Fs h0 h1 h2 h3 h4 h5;have hl:=H5 hw;refine(h w A vs Fs h0 h1 (by rw[h2];simp[hl]) (fun j a hj=>?_) h4 fun j b hb=>⟨(h5 j b hb).1,(h5 j b hb).2.1,by simpa[hl] using(h5 j b hb).2.2⟩).mono ?_
 ·rw[List.getElem?_map,Option.map_eq_some_iff] at hj
  obtain⟨x,hx,rfl⟩:=hj;obtain⟨d,hd,hwd⟩:=H4 hw hx;have:=h3 j (.v d) (by rw[List.getElem?_map,hd];rfl);exact⟨this.1.wk hwd,this.2⟩
 ·rintro e w' ⟨v,F,Fs',e1,e2,e3,e4,e5,e6,e7⟩
  refine⟨v,F,Fs',e1,e2,e3,fun j a hj=>?_,e5,fun j b hb=>⟨(e6 j b hb).1,(e6 j b hb).2.1,by simpa[hl] using(e6 j b hb).2.2⟩,e7⟩;rw[List.getElem?_map,Option.map_eq_some_iff] at hj;obtain⟨d,hd,rfl⟩:=hj;have hj2:j<xs.length:=by rw[hl];exact(List.getElem?_eq_some_iff.1 hd).1
  exact e4 j (.v xs[j]) (by rw[List.getElem?_map,List.getElem?_eq_getElem hj2];rfl)
theorem gJ[Mode]{P:Program}{f:FuncId}{pl:Prop}{K:St->Prop}{st:St}{xs:List Arg}{bs ds:List D}{res:D}(hR:al P f xs res)(ha:xs=bs.map .v)(hw:p6 bs ds)(hn:res.bd=true\/pl)(hK:K (st.push (aM res))):@jA _ P f (some ds) true pl none ⟨K⟩ st :=
 ak (Fo (ha▸hR) hw) rfl hn hK
theorem Jr[Mode]{P:Program}{f:FuncId}{gt:Bool}{pl:Prop}{K:St->Prop}{st:St}{xs:List Arg}{bs ds:List D}{res:D}{b:Bool}(hR:b=true->al P f xs res)(ha:xs=bs.map .v)(hw:p6 bs ds)(hgt:b=true->gt=true)(hn:res.bd=true\/pl)(hK:K (st.push (.when b res))) :
  @jA _ P f (some ds) gt pl (some b) ⟨K⟩ st:=bO (fun h=>Fo (ha▸hR h) hw) rfl hgt hn hK
end Go.D3
namespace Go.D3
open Go
set_option maxRecDepth 100000
set_option maxHeartbeats 4000000
def au.sL(x:au):List D:=[.int .i64 x.c.ob,ints x.c.fr,ints x.c.to,ints x.c.aL,aO x.c.co,U Pth.d Pth.zero x.ls,ints x.ed]
def au.none:au:=⟨ai.zero,[],[]⟩
noncomputable def jt(s:Sch):D:=match s.bn with
 | some x=>.af [.agg x.sL,.bool true]
 | Option.none=>.af [.agg au.none.sL,.bool false]
theorem Fl(s:Sch)(h:s.ok=true):al Go.Proofs.Tryz.prog 61 [.v (Sch.d s)] (.vw (jt s)):=by
 have hv:=bV.view (Q:=fun l=>∃(x:au)(M:List (Option Pth))(ok:Bool),l=[x.dX (U ep none M),.bool ok]/\(ok=true->M=x.ls.map some/\s.bn=some x)/\(ok=false->s.bn=none/\x=⟨ai.zero,[],[]⟩/\M=[])) (RR s h);have hc:=bV.clean hv fun l hl=>by obtain⟨_,_,_,rfl,_⟩:=hl;exact⟨⟨trivial,trivial,trivial,trivial,trivial,trivial,trivial,trivial⟩,trivial,trivial⟩
 have hg:iM Go.Proofs.Tryz.prog 61 [Sch.d s] [] (jt s) []:=hc.imp fun r g ⟨hg,l,hr,x,M,ok,hl,h1,h2⟩=>⟨?_,hg⟩
 ·have:(jt s).b0=true/\(jt s).refs db:=by unfold jt;cases s.bn<;>exact⟨rfl,⟨trivial,trivial,trivial,trivial,trivial,trivial,trivial,trivial⟩,trivial,trivial⟩
  exact hg.ret this.1 this.2
 ·rw[hr,hl]
  cases ok with
  | true =>
   obtain⟨rfl,hp⟩:=h1 rfl;unfold jt;rw[hp];show D.af [.agg [_,(ints x.c.fr).strip,(ints x.c.to).strip,(ints x.c.aL).strip,(aO x.c.co).strip,(U ep none (x.ls.map some)).strip,(ints x.ed).strip],_]=_;rw[xf,pO,dj,dj,dj,dj];rfl
  | false =>
   obtain⟨hp,rfl,rfl⟩:=h2 rfl;unfold jt;rw[hp];rfl
end Go.D3
namespace Go.D3
open Go
set_option maxHeartbeats 4000000
set_option maxRecDepth 100000
theorem yA{s:Sch}{x:au}(h:s.bn=some x):jt s=.af [.agg x.sL,.bool true]:=by unfold jt;rw[h]
theorem yz{s:Sch}(h:s.bn=Option.none):jt s=.af [.agg au.none.sL,.bool false]:=by unfold jt;rw[h]
def An:List Nat:=[0,1,2,3,8,4,5]
def He:Sl:=ae Go.Proofs.Tryz.types Go.Proofs.Tryz.f74 An []
theorem OP:aD Go.Proofs.Tryz.prog Go.Proofs.Tryz.f74 An He 4=true:=by decide +kernel
theorem RJ(c d:ai)(o f:List Int)(h1:ai.cost c<=1048576)(h2:ai.cost d<=1048576)(h3:o.length<=1048576)(h4:f.length<=1048576):al Go.Proofs.Tryz.prog 74 [.v c.d,.v d.d,.v (ints o),.v (ints f)] (a6.d ⟨c,d,o,f⟩):=by
 refine aA Go.Proofs.Tryz.func74 OP ?_;unfold He ae An;simp only[go_sem];refine ak (Fh c h1) rfl (.inl (sV _)) ?_;simp only[go_sem];refine ak (Fh d h2) rfl (.inl (sV _)) ?_;simp only[go_sem];refine ak (jV o h3) rfl (.inl (bL _)) ?_;simp only[go_sem];refine ak (jV f h4) rfl (.inl (bL _)) ?_;simp only[go_sem]
 all_goals rfl
def bF(m:Smp)(a b:au):List D:=m.cells++a.sL++b.sL
theorem QK{s:Sch}{x:au}(hx:fL s x){p:Pth}{y:Int}(hp:s.aF p=some y):al Go.Proofs.Tryz.prog 47 [.v (.agg x.sL),.v (Pth.d p)] (.int .i64 (x.arr p p.ed.length)):=by
 obtain⟨h1,h2,_⟩:=bw.1 hp;have hi:=hx.sh.aL;have ho:=hx.ob;have hco:=hx.sh.co;have hed:=hx.ed
 have he:∀i,i<p.ed.length->∃k:Nat,p.ed.getD i 0=k/\k<s.fr.length:=fun i hi=>by
  have hm:=kf hp (i:=i+1) hi;rw[b9 hi 0] at hm;obtain⟨k,k1,k2,_⟩:=oS hm;exact⟨k,k1,k2⟩
 unfold au.sL;refine aA Go.Proofs.Tryz.func47 DI ?_;unfold xU ae uc;simp only[go_sem];refine⟨by omega,?_⟩;refine aI [] (fun(i:Nat)=>[(5,.int .i64 (x.arr p i)),(6,.int .i64 i)]) (fun i=>i<=p.ed.length) (fun i=>p.ed.length-i) 0 (by simp only[go_sem];rfl) (Nat.zero_le _) rfl ?_;intro i hi;simp only[go_sem];refine⟨fun h1=>?_,fun h1=>by rw[show i=p.ed.length by omega]⟩;obtain⟨k,k1,k2⟩:=he i h1;obtain⟨a1,a2,_⟩:=hx.ar k k2;obtain⟨h,m,h3,h4,_⟩:=au.ot hx hp i (by omega);have hr:=hx.sh.row h h4
 have e:x.arr p (i+1)=(x.c.co.getD (x.arr p i).toNat []).getD (x.ed.getD (p.ed.getD i 0).toNat 0).toNat 0:=by
  unfold au.arr;rw[b9 h1 0,List.foldl_append];rfl
 refine⟨by omega,h1,by omega,by rw[h3,k1,Int.toNat_natCast,Int.toNat_natCast];exact⟨a1,by omega⟩,i+1,h1,by omega,?_⟩;rw[e,aH h1 (by simp only[maxLen];omega)]
def Ay:List Nat:=[0,2,1,3,4,5,6]
def Ho:Sl:=ae Go.Proofs.Tryz.types Go.Proofs.Tryz.f43 Ay []
theorem O0:aD Go.Proofs.Tryz.prog Go.Proofs.Tryz.f43 Ay Ho 1=true:=by decide +kernel
theorem RV(m:Smp):al Go.Proofs.Tryz.prog 43 [.v (Smp.d m)] (.bool m.okB):=by
 refine eI fun hw=>?_
 simp only[c7,Smp.d,Smp.cells,D.dx,gh,eL] at hw;refine aA Go.Proofs.Tryz.func43 O0 ?_;unfold Ho ae Ay;simp only[go_sem];refine ak (Ff m.src) rfl (.inl rfl) ?_;simp only[go_sem];refine bO (fun _=>Ff m.aJ) rfl (fun h=>h) (.inl rfl) ?_;simp only[go_sem];refine⟨(fun h=>by simp only[Bool.not_eq_false'] at h|-;exact h),(fun h=>by simp only[Bool.or_eq_false_iff,Bool.and_eq_true,Bool.not_eq_false'] at h|-;exact h),(fun h=>by simp only[Bool.or_eq_false_iff,Bool.and_eq_true,Bool.not_eq_true',Bool.not_eq_false'] at h|-;exact h),bO (fun _=>pG m.aJ.nd m.bq) rfl (fun h=>h) (.inl rfl) ?_⟩;simp only[go_sem];refine⟨(fun h=>by simp only[Bool.or_eq_false_iff,Bool.and_eq_true,Bool.not_eq_true',Bool.not_eq_false'] at h|-;exact h),fun h1=>?_,fun h1=>?_⟩
 ·cases hb:m.okB with
  | false=>rfl
  | true =>
   simp only[Smp.okB,Bool.and_eq_true,beq_iff_eq] at hb;obtain⟨⟨⟨⟨⟨b1,b2⟩,b3⟩,b4⟩,b5⟩,_⟩:=hb;rw[b1,b2,b3,b4,b5] at h1;simp at h1
 simp only[Bool.or_eq_false_iff,Bool.not_eq_false',bne_eq_false_iff_eq] at h1;obtain⟨⟨⟨⟨b1,b2⟩,b3⟩,b5⟩,b4⟩:=h1;have hss:=ga (fg b1).1;have hts:=ga (fg b2).1;have hto:=hss.to;have hel:m.bh.length=m.src.fr.length:=by omega
 have hok:m.okB=ca m.bh.length m.gp:=by
  unfold Smp.okB;rw[b1,b2,b3,b4,hel];simp
 refine aI [6] (fun(e:Nat)=>[(5,.int .i64 e)]) (fun e=>e<=m.bh.length/\ca e m.gp=true) (fun e=>m.bh.length-e) 0 (by simp only[go_sem];rfl) ⟨Nat.zero_le _,rfl⟩ rfl ?_;rintro e ⟨he,ha⟩;simp only[go_sem];refine⟨fun h2=>⟨h2,?_⟩,fun h2=>?_⟩
 ·refine ak (xM m.aJ (m.bh.getD e Pth.zero) hts.to hts.n0) rfl (.inl rfl) ?_
  have hfr:=gw hss.fr (show e<m.src.fr.length by omega);have htr:=gw hss.yE (show e<m.src.to.length by omega);have hwe:=aH h2 (show m.bh.length<=maxLen by have:=hss.f8;simp only[maxLen];omega);have hstop:m.gp e=false->false=m.okB:=fun hx=>by rw[hok,mH h2 hx]
  cases hE:m.aJ.aF (m.bh.getD e Pth.zero) with
  | none =>
   simp only[Option.isSome_none];simp only[go_sem];refine bO (res:=.int .i64 0) (fun h=>by cases h) rfl (fun h=>by cases h) (.inl rfl) ?_;simp only[go_sem];exact hstop (by unfold Smp.gp;rw[hE];simp)
  | some y =>
   simp only[Option.isSome_some];simp only[go_sem];refine⟨by omega,⟨hfr.1,by omega⟩,bO (fun _=>me m.aJ (m.bh.getD e Pth.zero) y hts.to hE) rfl (fun h=>h) (.inl rfl) ?_⟩;simp only[go_sem];refine⟨fun h=>⟨h,by omega⟩,fun h=>⟨h,htr.1,by omega⟩,fun h=>by rw[h];rfl,fun h=>hstop ?_,fun h=>⟨e+1,⟨h2,jx ha ?_⟩,by omega,by rw[hwe]⟩⟩
   ·unfold Smp.gp
    rw[hE];simp only[Bool.or_eq_true,bne_iff_ne] at h;simp only[Bool.and_eq_false_iff,beq_eq_false_iff_ne,ne_eq,Option.some.injEq];exact h
   ·unfold Smp.gp
    rw[hE];simp only[Bool.or_eq_false_iff,bne_eq_false_iff_eq] at h;rw[h.1,h.2];simp
 ·rw[hok,show m.bh.length=e by omega,ha]
def Ax:List Nat:=[0,1,4,2,3,5,6]
def Hn:Sl:=ae Go.Proofs.Tryz.types Go.Proofs.Tryz.f73 Ax []
theorem OZ:aD Go.Proofs.Tryz.prog Go.Proofs.Tryz.f73 Ax Hn 2=true:=by decide +kernel
theorem Fj{m:Smp}(hm:m.Ok)(a:au){b:au}(hb:fL m.aJ b){p:Pth}{y:Int}(hp:m.src.aF p=some y):al Go.Proofs.Tryz.prog 73 [.v (.agg (bF m a b)),.v (Pth.d p)] (.int .i64 (m.fb b p p.ed.length)):=by
 obtain⟨h1,h2,_⟩:=bw.1 hp;have hn:=hm.n;have hi:=hb.sh.aL;have ho:=hb.ob;have hco:=hb.sh.co;have hr:=hm.r p.st.toNat (by omega);unfold bF au.sL;refine aA Go.Proofs.Tryz.func73 OZ ?_;unfold Hn ae Ax;simp only[go_sem];refine⟨by omega,by omega,?_⟩;refine aI [] (fun(i:Nat)=>[(5,.int .i64 (m.fb b p i)),(6,.int .i64 i)]) (fun i=>i<=p.ed.length) (fun i=>p.ed.length-i) 0 (by simp only[go_sem];rfl) (Nat.zero_le _) rfl ?_;intro i hi;simp only[go_sem];refine⟨fun h3=>?_,fun h3=>?_⟩
 ·obtain⟨k,c,k1,k2,k3,c1,c2,c3,c4,f1,f2⟩:=Smp.vi hm hb hp h3
  obtain⟨h,n,i1,i2,i3,i4⟩:=Smp.vH hm hb hp i (by omega);have aG:=Smp.vI (m:=m) (b:=b) h3;rw[k1,Int.toNat_natCast,c1] at aG;have hrow:=hb.sh.row h i2;have hw:=aH h3 (show p.ed.length<=maxLen by simp only[maxLen];omega);simp only[k1,Int.toNat_natCast];refine⟨h3,by omega,ak (QK hb k3) rfl (.inl rfl) ?_⟩;rw[c1];simp only[go_sem];refine ak (RI b.c (m.fb b p i) (c:Int) (by omega) (by omega) (by omega) (by rw[i1,Int.toNat_natCast];omega)) rfl (.inl rfl) ?_;simp only[go_sem];exact⟨i+1,h3,by omega,by rw[aG,hw]⟩
 ·rw[show i=p.ed.length by omega]
def Az:List Nat:=[0,2,1,3]
def Hq:Sl:=ae Go.Proofs.Tryz.types Go.Proofs.Tryz.f72 Az []
theorem O1:aD Go.Proofs.Tryz.prog Go.Proofs.Tryz.f72 Az Hq 1=true:=by decide +kernel
theorem RW{m:Smp}(hm:m.Ok)(a:au){b:au}(hb:fL m.aJ b):al Go.Proofs.Tryz.prog 72 [.v (.agg (bF m a b))] (.bool (m.eX b)):=by
 obtain⟨hk1,hlf,hrt⟩:=fg hm.s;have him:=fun {p y}(hp:m.src.aF p=some y)=>Fj hm a hb hp
 unfold bF au.sL at him|-
 refine aA Go.Proofs.Tryz.func72 O1 ?_;unfold Hq ae Az;simp only[go_sem];refine aI [] (fun(i:Nat)=>[(3,.int .i64 i)]) (fun i=>i<=m.src.lf.length/\ca i (fun i=>m.fb b (m.src.lf.getD i Pth.zero) (m.src.lf.getD i Pth.zero).ed.length == m.fb b (m.src.rt.getD i Pth.zero) (m.src.rt.getD i Pth.zero).ed.length)=true) (fun i=>m.src.lf.length-i) 0 (by simp only[go_sem];rfl) ⟨Nat.zero_le _,rfl⟩ rfl ?_;rintro i ⟨hi,ha⟩;simp only[go_sem];refine⟨fun h1=>?_,fun h1=>?_⟩
 ·obtain⟨z,hp,hq,aG⟩:=ok_eq hm.s h1
  refine⟨h1,ak (him hp) rfl (.inl rfl) ?_⟩;simp only[go_sem];refine⟨by omega,ak (him hq) rfl (.inl rfl) ?_⟩;simp only[go_sem];refine⟨fun h2=>?_,fun h2=>⟨i+1,⟨h1,jx ha (by rw[beq_iff_eq];rwa [bne_eq_false_iff_eq] at h2)⟩,by omega,by rw[aH h1 (by simp only[maxLen];omega)]⟩⟩;unfold Smp.eX;rw[mH h1 (by rw[bne_iff_ne] at h2;exact beq_eq_false_iff_ne.2 h2)]
 ·unfold Smp.eX
  rw[show m.src.lf.length=i by omega,ha]
def Aw:List Nat:=[0,2,1,3,4]
def Hm:Sl:=ae Go.Proofs.Tryz.types Go.Proofs.Tryz.f27 Aw []
theorem OY:aD Go.Proofs.Tryz.prog Go.Proofs.Tryz.f27 Aw Hm 1=true:=by decide +kernel
theorem RU{m:Smp}(hm:m.Ok){a b:au}(ha:m.src.bn=some a)(hb:m.aJ.bn=some b):al Go.Proofs.Tryz.prog 27 [.v (.agg (bF m a b))] (a6.d ⟨a.c,b.c,m.bq,m.cw b a.ls⟩):=by
 have hta:=l9 hm.s ha;have htb:=l9 hm.t hb;obtain⟨hsp,h40⟩:=xe hm.s ha;have hn:=hm.n;have hn8:=(ga (fg hm.s).1).n8;have him:=fun {p y}(hp:m.src.aF p=some y)=>Fj hm a htb hp
 unfold bF au.sL at him|-
 refine aA Go.Proofs.Tryz.func27 OY ?_;unfold Hm ae Aw;simp only[go_sem];refine aI [] (fun(i:Nat)=>[(3,.o (ints (m.cw b (a.ls.take i)))),(4,.int .i64 i)]) (fun i=>i<=a.ls.length) (fun i=>a.ls.length-i) 0 (by simp only[go_sem];rfl) (Nat.zero_le _) rfl ?_;intro i hi;have hal:∀l,(m.cw b l).length=l.length:=fun l=>List.length_map _
 simp only[go_sem];refine⟨fun h1=>?_,fun h1=>?_⟩
 ·obtain⟨y,hy⟩:=hsp _ (cR (d:=Pth.zero) h1)
  refine⟨h1,ak (him hy) rfl (.inl rfl) ?_⟩;simp only[go_sem];refine⟨by rw[hal,List.length_take];omega,i+1,h1,by omega,?_⟩;rw[aH h1 (by simp only[maxLen];omega),b9 h1 Pth.zero];unfold Smp.cw;rw[List.map_append];rfl
 ·rw[List.take_of_length_le (by omega)]
  refine ak (RJ a.c b.c m.bq (m.cw b a.ls) hta.sh.ql htb.sh.ql (by omega) (by rw[hal];omega)) rfl (.inl (ny _)) ?_;simp only[go_sem]
end Go.D3
