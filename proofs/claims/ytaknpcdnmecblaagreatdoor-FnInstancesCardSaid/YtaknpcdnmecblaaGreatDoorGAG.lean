/- CONTRACTS: the classes of short paths, the program's side. -/
import Derived.Test.YtaknpcdnmecblaaGreatDoorGAF
import Derived.Test.YtaknpcdnmecblaaGreatDoorHG
namespace Go.D3
open Go Proofs
set_option maxHeartbeats 4000000
set_option maxRecDepth 100000
@[go_sem] theorem ab8{α β:Type}{f:α->D}{g:β->D}{l:List (α×β)}{ob:Nat->D}:mapOf ob (bW f g l)=some (mK f l,mV g l):=rfl
abbrev mq(list:List U):D:=bW D.str (D.int .i64) (qV list list.length)
abbrev Nh(list:List U)(w:Nat)(p:U)(X Y:D)(J:List Int):List D:=[.box [.o (ints J)],.box [.int .i64 w],.box [.o (.ptr [mq list,X,Y])],.box p.cells]
abbrev abf:List D:=[.aG 0 [(0,0)],.aG 1 [(0,0)],.aG 2 [(0,0)],.aG 3 [(0,0)]]
def Cl:List Nat:=[0,1,2,3,4]
def Km:Sl:=ah Tryz.types Tryz.f225 Cl [(2,226)]
theorem T1:aE Tryz.prog Tryz.f225 Cl Km 5=true:=by decide +kernel
theorem YD(X Y:D)(s:aa)(hs:iM s)(list:List U)(hv:∀p∈list,s.sp p)(Z:list.Nodup)(hl:list.length<=400)(J:List Int)(hU:UF J)(hJ:J.length=list.length)(w y:Nat)(p:U)(ed:List Int)(hw:w<list.length)(V:y<list.length)(S:list.getD y U.zero=⟨p.st,ed⟩) :
  lE Tryz.prog 225 [.sub 4 [],.aG 0 [(0,0)],.aG 1 [(0,0)],.aG 2 [(0,0)],.aG 3 [(0,0)]] [.box [.o (ints J)],.box [.int .i64 w],.box [.o (.ptr [mq list,X,Y])],.box p.cells,.o (ints ed)] (.o (.av []))
   [.box [.o (ints (mS J w y))],.box [.int .i64 w],.box [.o (.ptr [mq list,X,Y])],.box p.cells,.o (ints ed)]:=by
 refine I1 .tree Tryz.func225 T1 ?_;unfold Km ah Cl;simp only[go_sem];have I:s.sp ⟨p.st,ed⟩:=S▸hv _ (dj V);have h6:ed.length<=6:=by obtain⟨z,hz⟩:=I;exact(bN.1 hz).2.1
 refine aj (A5 p.st ed (uI hs I) (by omega)) rfl (.inl rfl) ?_;simp only[go_sem];obtain⟨y',W,e1,e2⟩:=ET hs hv Z (p:=⟨p.st,ed⟩) (S▸dj V);obtain rfl:y'=y:=getD_inj Z W V (e1.trans S.symm);rw[e2];refine GO (Yq J hU (by omega) w y' (by omega) (by omega)) trivial ?_;simp only[go_sem];exact⟨_,_,rfl,rfl,rfl,rfl,rfl⟩
def NA(X Y:D)(s:aa)(list:List U)(w i:Nat)(W:U)(rc:D)(gs:List D):Prop:=∃J,rc=.o (.av [])/\gs=Nh list w W X Y J/\dx s list J w i (W.ed.length+1)
def Ch:List Nat:=[0,1,2,3,4,6,7,8,10,11,12,13]
def Ki:Sl:=ah Tryz.types Tryz.f224 Ch []
theorem TX:aE Tryz.prog Tryz.f224 Ch Ki 5=true:=by decide +kernel
theorem Ye(s:aa)(h:s.ok=true)(list:List U)(hA:dQ s list)(hv:∀p∈list,s.sp p)(hn:list.Nodup)(hl:list.length<=400)(J:List Int)(w i:Nat)(hw:w<list.length)(hi:i<s.lf.length)(hJ:dx s list J w i 0)(X Y:D) :
  bn Tryz.prog 224 [.ptr s.cells,(list.getD w U.zero).d,(s.lf.getD i U.zero).d,(s.rt.getD i U.zero).d,(.fn 225 abf)] (Nh list w (list.getD w U.zero) X Y J) (NA X Y s list w i (list.getD w U.zero)):=by
 obtain⟨a8,b2,b3⟩:=eX h;have hs:=ic a8;have b5:=hs.to;obtain⟨y,hy⟩:=hA.at' hw;have b0:=(bN.1 hy).2.1;obtain⟨z,hp,hq,aK⟩:=ok_eq h hi;have bg:=(bN.1 hp).2.1;have bF:=(bN.1 hq).2.1;generalize hW:list.getD w U.zero=W at hy b0;generalize ag:s.lf.getD i U.zero=p at hp aK bg;generalize ao:s.rt.getD i U.zero=q at hq aK bF;refine dB .tree Tryz.func224 TX ?_;unfold Ki ah Ch;simp only[go_sem];refine au [10,11] (fun(p:Nat×Int×List Int)=>[(8,.int .i64 p.2.1),(9,.int .i64 p.1),(12,.box [.o (ints p.2.2)])]) (fun p=>p.1<=W.ed.length+1/\dx s list p.2.2 w i p.1/\(p.1<=W.ed.length->bp s.fr s.to W.st (W.ed.take p.1)=some p.2.1)) (fun p=>W.ed.length+1-p.1) (0,W.st,J) (by simp only[go_sem];rfl) ⟨Nat.zero_le _,hJ,fun _=>rfl⟩ rfl ?_;rintro⟨a,m,K⟩ ⟨ha,hK,hm⟩;simp only at ha hK hm;simp only[go_sem];have b1:IntKind.i64.wrap ((a:Int)+(p.ed.length:Int))=((a+p.ed.length:Nat):Int):=by rw[wrap_small (by omega) (by omega)];omega
 simp only[b1,Int.toNat_natCast];refine⟨fun ad=>⟨fun h1=>?_,bf (fun _=>uy _ _ (by rw[List.length_drop,List.length_take];omega) (by omega)) rfl (fun h=>h) (.inl rfl) ?_⟩,fun ad=>⟨_,_,⟨K,rfl,rfl,by rw[show W.ed.length+1=a by omega];exact hK⟩,rfl,rfl,rfl,rfl,rfl,rfl,trivial⟩⟩
 ·simp only[Bool.and_eq_true,decide_eq_true_eq] at h1
  exact⟨by simp only[Bool.and_eq_true,decide_eq_true_eq];exact h1,by omega,h1.2⟩
 have Z:IntKind.i64.wrap ((a:Int)+1)=((a+1:Nat):Int):=aw (n:=9) (by omega) (by decide)
 have ab:∀_:a<W.ed.length,bp s.fr s.to W.st (W.ed.take (a+1))=some (s.to.getD (W.ed.getD a 0).toNat 0):=fun S=>by
  have:=rm hy (i:=a+1) (by omega);rw[if_neg (by omega),Nat.add_sub_cancel] at this;exact this
 have a1:∀_:a<W.ed.length,0<=W.ed.getD a 0/\W.ed.getD a 0<(s.to.length:Int):=fun S=>by
  have:=(ry (bN.1 hy).2.2).2 a S;exact⟨this.1,by omega⟩
 simp only[go_sem];refine⟨fun h1=>?_,fun h1=>?_⟩
 ·simp only[Bool.and_eq_true,decide_eq_true_eq,beq_iff_eq] at h1
  obtain⟨⟨e1,e0⟩,e2⟩:=h1;have b4:(W.ed.take a).length<=6:=by rw[List.length_take];omega
  have a7:(W.ed.take a++q.ed++W.ed.drop (a+p.ed.length)).length=W.ed.length-p.ed.length+q.ed.length:=by
   rw[List.length_append,List.length_append,List.length_take,List.length_drop];omega
  with_reducible (repeat' apply And.intro)
  all_goals(try omega)
  all_goals(
   refine aj (kc (W.ed.take a) (by omega)) rfl (.inl (bJ _)) ?_;simp only[go_sem];simp only[List.take_length,List.length_map]
   with_reducible (repeat' apply And.intro)
   all_goals(first
    | exact oP _
    | omega
    | (simp only[List.length_append,List.length_take,List.length_drop];omega)
    | skip))
  all_goals(intro h8)
  all_goals(first
   | (have V:dx s list K w i (a+1):=hK.skip fun q' I=>by
       unfold aa.gu at I;rw[hW,ag,ao] at I;obtain⟨_,_,_,_,g3,_⟩:=I;rw[a7] at h8;omega
      exact⟨fun S=>⟨S,a1 S,(a+1,s.to.getD (W.ed.getD a 0).toNat 0,K),⟨by simp only;omega,V,fun _=>ab S⟩,by simp only;omega,by rw[Z]⟩,fun S=>⟨(a+1,m,K),⟨by simp only;omega,V,fun h6=>by simp only at h6;omega⟩,by simp only;omega,by rw[Z]⟩⟩)
   | (have ax:W.ed.length-p.ed.length+q.ed.length<=6:=by rw[a7] at h8;omega
      have bT:=vz hy hp hq aK e0 (hm ad) e1 e2 (by omega);obtain⟨j,hj,a6⟩:=ff (d:=U.zero) (hA.a _ _ bT);have I:s.gu (list.getD w U.zero) i a (list.getD j U.zero):=by unfold aa.gu;rw[hW,ag,ao,a6];exact⟨hi,e0,by rw[hm ad,e1],e2,ax,rfl⟩
      obtain⟨u1,u2,u3⟩:=Q4 hK.uf (show w<K.length by rw[hK.len];exact hw) (show j<K.length by rw[hK.len];exact hj);have V:=hK.add hw hj (hv _ (dj hw)) I u1 u2 u3;refine Gp [12,13,14,15,11] false (YD X Y s hs list hv hn hl K hK.uf hK.len w j W _ hw hj a6) ?_;simp only[go_sem]
      exact⟨fun S=>⟨S,a1 S,(a+1,s.to.getD (W.ed.getD a 0).toNat 0,mS K w j),⟨by simp only;omega,V,fun _=>ab S⟩,by simp only;omega,by rw[Z]⟩,fun S=>⟨(a+1,m,mS K w j),⟨by simp only;omega,V,fun h6=>by simp only at h6;omega⟩,by simp only;omega,by rw[Z]⟩⟩))
 ·have V:dx s list K w i (a+1):=hK.skip fun q' I=>by
   unfold aa.gu at I;rw[hW,ag,ao,hm ad] at I;obtain⟨_,g0,g1,g2,_⟩:=I;injection g1 with g1
   simp only[Bool.and_eq_false_iff,decide_eq_false_iff_not,beq_eq_false_iff_ne] at h1;rcases h1 with(h1 | h1) | h1
   ·exact h1 g1
   ·exact h1 g0
   ·exact h1 g2
  exact⟨fun S=>⟨S,a1 S,(a+1,s.to.getD (W.ed.getD a 0).toNat 0,K),⟨by simp only;omega,V,fun _=>ab S⟩,by simp only;omega,by rw[Z]⟩,fun S=>⟨(a+1,m,K),⟨by simp only;omega,V,fun h6=>by simp only at h6;omega⟩,by simp only;omega,by rw[Z]⟩⟩
end Go.D3
namespace Go.D3
open Go Proofs
set_option maxHeartbeats 4000000
set_option maxRecDepth 100000
theorem aa6{A B C:Prop}(hA:C->A)(S:C->B)(I:C):A/\B:=⟨hA I,S I⟩
def gA:Option U->D
 | some p=>.agg [.int .i64 p.st,ints p.ed]
 | none=>.agg [.int .i64 0,.vw (.aH (.int .i64 0))]
theorem XQ{n:Nat}:D.slice (.agg [.int .i64 0,.vw (.aH (.int .i64 0))]) (List.replicate n (.agg [.int .i64 0,.vw (.aH (.int .i64 0))]))=ae gA none (List.replicate n none):=by unfold ae;rw[List.map_replicate];rfl
theorem IK{M:List (Option U)}{c:Nat}(h:c<M.length){a:Int}{b:List Int}:((ae gA none M).fw c 0 (.int .i64 a)).fw c 1 (ae (.int .i64) 0 b)=ae gA none (M.set c (some ⟨a,b⟩)):=by
 unfold ae;simp only[D.fw,D.dw];have e:(M.map gA).getD c (gA none)=gA (M.getD c none):=by rw[getD_map']
 rw[e];have I:dM (gA (M.getD c none)) 0 (.int .i64 a)=.agg [.int .i64 a,(match M.getD c none with | some p=>ints p.ed | none=>.vw (.aH (.int .i64 0)))]:=by cases M.getD c none<;>rfl
 rw[I,List.set_set,List.getD_eq_getElem?_getD,List.getElem?_set_self (by simpa using h),List.map_set];rfl
theorem IKu{M:List (Option U)}{c:Nat}(h:c<M.length){a:Int}{b:List Int}{y z:D}(hy:∃w,y=.agg [.int .i64 a,w]):D.slice (.agg [.int .i64 0,.vw (.aH (.int .i64 0))]) (((M.map gA).set c y).set c (dM (((M.map gA).set c y).getD c z) 1 (ae (.int .i64) 0 b)))=ae gA none (M.set c (some ⟨a,b⟩)):=by
 obtain⟨w,rfl⟩:=hy
 have e:((M.map gA).set c (D.agg [.int .i64 a,w])).getD c z=.agg [.int .i64 a,w]:=by rw[List.getD_eq_getElem?_getD,List.getElem?_set_self (by simpa using h)];rfl
 rw[e,List.set_set];unfold ae;rw[List.map_set];rfl
theorem W5{K:List U}{i:Nat}(h:i<K.length):(K.map some).getD i none=some (K.getD i U.zero):=by rw[aM (by simpa using h),List.getElem_map,aM h]
attribute [go_sem] XQ
def Em(s:aa)(l:List D):Prop:=(∃o,l=[ae U.d U.zero o,.bz]/\xQ s o)\/∃m,l=[ae U.d U.zero [],.bE 159 (.agg [.str m])]/\¬s.fits
theorem YG(s:aa)(I:iM s):bn Tryz.prog 221 [.ptr s.cells] [] fun rc gs=>gs=[]/\∃l,rc=.av l/\Em s l:=bn.view (Q:=Em s) (Yi s I)
structure lC(s:aa)(list:List U)(cl:List Int)(K:List U):Prop where
 sh:xQ s list
 c:jb s list cl
 k:jB s list cl K.length K
 iD:∀p∈K,p.ed.length<6
def NG(s:aa)(rc:D)(gs:List D):Prop:=gs=[]/\∃l,rc=.av l/\((∃list cl K,l=[.ptr [mq list,ints cl,ae gA none (K.map some)],.bz]/\lC s list cl K)\/∃m,l=[.bd,.bE 159 (.agg [.str m])]/\s.gK none)
def Ck:List Nat:=[0,2,3,4,5,6,7,8,9,10,11,12,13,14,16,28,29,30,49,50,51,60,61,157,158,159]
def Kl:Sl:=ah Tryz.types Tryz.f165 Ck [(0,221),(0,224),(2,227),(4,2),(7,51),(9,1),(12,95)]
theorem T0:aE Tryz.prog Tryz.f165 Ck Kl 1=true:=by decide +kernel
theorem Yg(s:aa)(h:s.ok=true):bn Tryz.prog 165 [.ptr s.cells] [] (NG s):=by
 obtain⟨a8,b5,cg⟩:=eX h;have hs:=ic a8;refine dB .view Tryz.func165 T0 ?_;unfold Kl ah Ck;simp only[go_sem];refine bj [] false (YG s hs) ?_;rintro _ _ ⟨rfl,l,rfl,I⟩;refine⟨(by repeat(first | exact trivial | refine⟨(fun h=>by cases h),?_⟩)),(fun h=>by cases h),?_⟩;rcases I with⟨o,rfl,I⟩ | ⟨m,rfl,I⟩
 rotate_left
 ·simp only[go_sem]
  exact⟨_,_,⟨rfl,_,rfl,.inr ⟨_,rfl,.many I⟩⟩,rfl,rfl,trivial⟩
 simp only[go_sem];have hl:=I.len;have hv:∀p∈o,s.sp p:=I.a.v;refine au [6,7] (fun(i:Nat)=>[(5,.box [.o (.ptr [bW D.str (D.int .i64) (qV o i),ints [],ae U.d U.zero []])]),(17,.int .i64 i)]) (fun i=>i<=o.length) (fun i=>o.length-i) 0 (by simp only[go_sem];rfl) (Nat.zero_le _) rfl ?_;intro i hi;simp only[go_sem];refine⟨fun h1=>?_,fun h1=>?_⟩
 ·have hp:=dj (d:=U.zero) h1
  have ax:=hv _ hp;have h6:(o.getD i U.zero).ed.length<=6:=by obtain⟨z,hz⟩:=ax;exact(bN.1 hz).2.1
  refine⟨h1,aj (A5 _ _ (uI hs ax) (by omega)) rfl (.inl rfl) ?_⟩;simp only[go_sem];rw[show(⟨(o.getD i U.zero).st,(o.getD i U.zero).ed⟩:U)=o.getD i U.zero from rfl,OQ hs hv I.nd h1,aw h1 (by simp only[maxLen];omega)];exact⟨by unfold qV;rw[WL];simp only[maxLen];omega,i+1,h1,by omega,rfl⟩
 obtain rfl:i=o.length:=by omega
 refine aj (Yp o.length (by omega)) rfl (.inl (bJ _)) ?_;simp only[go_sem];refine au [9,10,11,21,22] (fun(p:Nat×List Int)=>[(8,.box [.o (ints p.2)]),(20,.int .i64 p.1)]) (fun p=>p.1<=o.length/\dx s o p.2 p.1 0 0) (fun p=>o.length-p.1) (0,bk o.length) (by simp only[go_sem];rfl) ⟨Nat.zero_le _,dx.zero I.a⟩ rfl ?_;rintro⟨w,J⟩ ⟨hw,hJ⟩;simp only at hw hJ;simp only[go_sem];refine⟨fun h2=>⟨h2,?_⟩,fun h2=>?_⟩
 ·refine au [11] (fun(p:Nat×List Int)=>[(8,.box [.o (ints p.2)]),(22,.int .i64 p.1)]) (fun p=>p.1<=s.lf.length/\dx s o p.2 w p.1 0) (fun p=>s.lf.length-p.1) (0,J) (by simp only[go_sem];rfl) ⟨Nat.zero_le _,hJ⟩ rfl ?_
  rintro⟨i,L⟩ ⟨a6,hL⟩;simp only at a6 hL;simp only[go_sem];refine⟨fun h3=>⟨h3,by omega,?_⟩,fun h3=>?_⟩
  ·refine bj [8,9,5,10] false (Ye s h o I.a hv I.nd hl L w i h2 h3 hL (ints []) (ae U.d U.zero [])) ?_
   rintro _ _ ⟨K,rfl,rfl,hK⟩;refine⟨(by repeat(first | exact trivial | refine⟨(fun h=>by cases h),?_⟩)),(fun h=>by cases h),?_⟩;simp only[go_sem];exact⟨(i+1,K),⟨h3,hK.zQ (Nat.lt_succ_self _)⟩,by simp only;omega,by rw[aw h3 (by simp only[maxLen];omega)]⟩
  ·exact⟨(w+1,L),⟨h2,hL.zR (by omega)⟩,by simp only;omega,by rw[aw h2 (by simp only[maxLen];omega)]⟩
 obtain rfl:w=o.length:=by omega
 have hU:=hJ.uf;have Z:=hJ.len;have ad:∀K:St->Prop,∀st:St,cE [.sub 8 [(0,0)]] (fun l st=>∃x y,l=[x]/\[Arg.io (.o (ints J)) (.o (ints (jf J J.length)))]=.io (.o x) (.o y)::[].map .v/\gm [.sub 8 [(0,0)]] [y] (fun st=>K (st.push (aV (ints (cT (iu J J.length)))))) st) st->@pL _ Tryz.prog 227 (.sub 8 [(0,0)]) (some []) true True none ⟨K⟩ st:=fun K st Y=>GO (Yr J hU (by omega)) trivial Y
 apply aa6
 ·intro hc
  refine ad _ _ ?_;simp only[go_sem];exact⟨_,_,rfl,rfl,rfl,hc⟩
 ·intro hc
  refine ad _ _ ?_;simp only[go_sem];exact⟨_,_,rfl,rfl,rfl,hc⟩
 clear ad;obtain⟨nc,ag,ao,hb,hex⟩:=Pq (iu J J.length);have W:jb s o (cT (iu J J.length)):=hJ.cls I.a I.nd (rI.trans Z) (fun i hi=>Rj (by omega)) s6;rw[rI,Z] at ao hb hex;rw[Z];rw[Z] at W ag;generalize cT (iu J o.length)=cl at W ag hb hex;have bT:=W.len;refine aj (Yu cl (by omega) (fun i hi=>by have:=hb i (by omega);omega)) rfl (.inl rfl) ?_;rw[ag];simp only[go_sem];refine⟨⟨Nat.le_refl _,by omega⟩,?_⟩;rw[wrap_small (by omega) (by omega)];refine au [13] (fun(p:Nat×List (Option U))=>[(5,.box [.o (.ptr [mq o,ints cl,ae gA none p.2])]),(12,.int .i64 ((p.1:Int)-1))]) (fun p=>p.1<=o.length/\jc s o cl nc p.1 p.2) (fun p=>p.1) (o.length,List.replicate nc none) (by simp only[go_sem];rfl) ⟨Nat.le_refl _,jc.zero⟩ rfl ?_;rintro⟨i,M⟩ ⟨a7,hM⟩;simp only at a7 hM;simp only[go_sem];have b0:=hM.len;refine⟨fun h3=>?_,fun h3=>?_⟩
 ·obtain⟨j,rfl⟩:∃j,i=j+1:=⟨i-1,by omega⟩
  have ej:((j+1:Nat):Int)-1=j:=by omega
  obtain⟨b1,b2⟩:=hb j (by omega);obtain⟨c,hc⟩:∃c:Nat,cl.getD j 0=c:=⟨(cl.getD j 0).toNat,by omega⟩;simp only[ej,Int.toNat_natCast,hc];have b4:(o.getD j U.zero).ed.length<=6:=by obtain⟨z,hz⟩:=hv _ (dj (d:=U.zero) (show j<o.length by omega));exact(bN.1 hz).2.1
  have fin:M.getD c none=none\/(∃q,M.getD c none=some q/\s.lt (o.getD j U.zero) q)->jc s o cl nc j (M.set c (some (o.getD j U.zero))):=fun Y=>hM.set (by omega) hc (by omega) fun p hp=>by
   rcases Y with Y | ⟨q,Y,ab⟩
   ·rw[Y] at hp;cases hp
   ·rw[Y] at hp;injection hp with hp;rw[<-hp];exact ab
  cases S:M.getD c none with
  | none =>
   simp only[go_sem,gA,S];refine⟨by omega,by omega,by omega,bf (res:=.int .i64 0) (fun h=>by cases h) rfl (fun h=>by cases h) (.inl rfl) ?_⟩;simp only[go_sem];refine⟨by omega,by omega,aj (kc _ (by omega)) rfl (.inl (bJ _)) ?_⟩;simp only[go_sem,gA,S];first | rw[IK (by omega)] | rw[IKu (by omega) ⟨_,rfl⟩];exact⟨by omega,by omega,(j,_),⟨by simp only;omega,fin (.inl S)⟩,by simp only;omega,by rw[wrap_small (by omega) (by omega)]⟩
  | some q =>
   obtain⟨m,m1,m2,m3,m4,m5⟩:=hM.yes c q (by omega) S;have heq:=(W.eq j m (by omega) m2).1 (by omega);have V:=jN h heq;rw[<-m4] at V;have cc:q.ed.length<=6:=by obtain⟨z,hz⟩:=V.2.2.2;exact(bN.1 hz).2.1
   have bF:q.ed≠[]:=fun e=>by
    have b9:m<s.nd.toNat:=Nat.lt_of_not_le fun Y=>I.f.2.1 m Y m2 (m4▸e)
    have:=I.f.2.2 j (by omega)
    have e2:o.getD j U.zero=q:=by
     cases hx:o.getD j U.zero;cases q;rw[hx] at this V;simp only at this V e;rw[this,V.1,e]
    have:=getD_inj I.nd (show j<o.length by omega) m2 (e2.trans m4);omega
   have cd : 0<q.ed.length:=List.length_pos_iff.2 bF;simp only[go_sem,gA,S];refine⟨by omega,by omega,by omega,by omega,by omega,by omega,by omega,bf (fun _=>Jv (o.getD j U.zero) q (by omega) (by omega)) rfl (fun h=>h) (.inl rfl) ?_⟩;simp only[go_sem];have ab:=Pw (s:=s) (p:=o.getD j U.zero) (q:=q) V.1 V.2.1;refine⟨fun h4=>?_,fun h4=>?_⟩
   ·refine⟨by omega,by omega,aj (kc _ (by omega)) rfl (.inl (bJ _)) ?_⟩
    simp only[go_sem,gA,S];first | rw[IK (by omega)] | rw[IKu (by omega) ⟨_,rfl⟩];exact⟨by omega,by omega,(j,_),⟨by simp only;omega,fin (.inr ⟨q,S,ab.1 h4⟩)⟩,by simp only;omega,by rw[wrap_small (by omega) (by omega)]⟩
   ·exact⟨(j,M),⟨by simp only;omega,hM.bZ hc (by omega) S fun Y=>h4 (ab.2 Y)⟩,by simp only;omega,by rw[wrap_small (by omega) (by omega)]⟩
 obtain rfl:i=0:=by omega
 obtain⟨K,rfl,hK⟩:=hM.done hb hex;have a1:=hK.len;refine au [14] (fun(i:Nat)=>[(25,.int .i64 i)]) (fun i=>i<=K.length/\∀k,k<i->(K.getD k U.zero).ed.length≠6) (fun i=>K.length-i) 0 (by simp only[go_sem];rfl) ⟨Nat.zero_le _,fun k hk=>absurd hk (Nat.not_lt_zero _)⟩ rfl ?_;rintro i ⟨b3,h6⟩;by_cases h7:i<K.length
 ·simp only[go_sem,W5 h7,gA,List.length_map]
  refine⟨fun _=>⟨h7,h7,fun h8=>?_,fun h8=>?_⟩,fun h8=>absurd h7 h8⟩
  ·exact⟨_,_,⟨rfl,_,rfl,.inr ⟨_,rfl,hK.jY h I.a I.nd W (c:=i) (by omega) (by omega)⟩⟩,rfl,rfl,trivial⟩
  ·refine⟨i+1,⟨h7,fun k hk=>?_⟩,by omega,by rw[aw h7 (by simp only[maxLen];omega)]⟩
   by_cases bg:k=i
   ·subst bg
    rw[beq_eq_false_iff_ne] at h8;omega
   ·exact h6 k (by omega)
 ·simp only[go_sem,List.length_map]
  refine⟨fun h8=>absurd h8 h7,fun _=>⟨_,_,⟨rfl,_,rfl,.inl ⟨o,cl,K,rfl,I,W,by rw[a1];exact hK,fun p hp=>?_⟩⟩,rfl,rfl,trivial⟩⟩;obtain⟨k,hk,rfl⟩:=ff (d:=U.zero) hp;obtain⟨m,m1,_,m3⟩:=hK.ex k (by omega);have h9:=h6 k (by omega);obtain⟨z,hz⟩:=hv _ (dj (d:=U.zero) m1);rw[<-m3] at hz;have:=(bN.1 hz).2.1;omega
def NH(s:aa)(l:List D):Prop:=(∃list cl K,l=[.ptr [mq list,ints cl,ae U.d U.zero K],.bz]/\lC s list cl K)\/∃m,l=[.bd,.bE 159 (.agg [.str m])]/\s.gK none
theorem W6{K:List U}:(ae gA none (K.map some)).strip=ae U.d U.zero K:=by
 rw[xq (g:=U.d) (e:=U.zero) (t:=fun o:Option U=>o.getD U.zero) rfl (fun x I=>?_),List.map_map]
 ·congr 1
  exact List.map_id K
 ·obtain⟨p,_,rfl⟩:=List.mem_map.1 I
  show D.agg [_,(ints p.ed).strip]=_;rw[dD];rfl
theorem YC(s:aa)(h:s.ok=true):bn Tryz.prog 165 [.ptr s.cells] [] fun rc gs=>gs=[]/\∃l,rc=.av l/\NH s l:=by
 refine(bn.clean (Q:=fun l=>(∃list cl K,l=[.ptr [mq list,ints cl,ae gA none (K.map some)],.bz]/\lC s list cl K)\/∃m,l=[.bd,.bE 159 (.agg [.str m])]/\s.gK none) (Yg s h) fun l S=>?_).imp fun r g ⟨hg,l,V,S⟩=>⟨hg,_,V,?_⟩
 ·rcases S with⟨_,_,_,rfl,_⟩ | ⟨_,rfl,_⟩<;>exact⟨trivial,trivial,trivial⟩
 ·rcases S with⟨o,cl,K,rfl,I⟩ | ⟨m,rfl,I⟩
  ·refine .inl ⟨o,cl,K,?_,I⟩
   show[D.ptr [_,(ints cl).strip,(ae gA none (K.map some)).strip],_]=_;rw[dD,W6];rfl
  ·exact .inr ⟨m,rfl,I⟩
end Go.D3
