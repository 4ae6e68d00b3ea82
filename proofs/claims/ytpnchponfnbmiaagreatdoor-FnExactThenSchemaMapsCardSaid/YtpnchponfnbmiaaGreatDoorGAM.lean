/- CONTRACTS: functors of maps of schemas: the reference's side. -/
import Derived.Test.YtpnchponfnbmiaaGreatDoorGAL
namespace Go.D3
open Go
set_option maxHeartbeats 4000000
set_option maxRecDepth 100000
theorem zJ{s:Sch}{x:au}(h:s.aU=some x):jL s=.ah [.agg x.sL,.bool true]:=by unfold jL;rw[h]
theorem zI{s:Sch}(h:s.aU=Option.none):jL s=.ah [.agg au.none.sL,.bool false]:=by unfold jL;rw[h]
def Bq:List Nat:=[0,1,2,3,8,4,5]
def IZ:Sl:=ae Go.Proofs.Tryz.types Go.Proofs.Tryz.f74 Bq []
theorem QQ:aD Go.Proofs.Tryz.prog Go.Proofs.Tryz.f74 Bq IZ 4=true:=by decide +kernel
theorem TP(c d:ak)(o f:List Int)(h1:ak.cost c<=1048576)(h2:ak.cost d<=1048576)(h3:o.length<=1048576)(h4:f.length<=1048576):al Go.Proofs.Tryz.prog 74 [.v c.d,.v d.d,.v (ints o),.v (ints f)] (bX.d ⟨c,d,o,f⟩):=by
 refine aC Go.Proofs.Tryz.func74 QQ ?_;unfold IZ ae Bq;simp only[go_sem];refine af (G8 c h1) rfl (.inl (E9 _)) ?_;simp only[go_sem];refine af (G8 d h2) rfl (.inl (E9 _)) ?_;simp only[go_sem];refine af (gP o h3) rfl (.inl (bJ _)) ?_;simp only[go_sem];refine af (gP f h4) rfl (.inl (bJ _)) ?_;simp only[go_sem]
 all_goals rfl
def bG(m:Smp)(a b:au):List D:=m.cells++a.sL++b.sL
theorem GD{s:Sch}{x:au}(hx:fY s x){p:Pth}{y:Int}(hp:s.aB p=some y):al Go.Proofs.Tryz.prog 47 [.v (.agg x.sL),.v (Pth.d p)] (.int .i64 (x.arr p p.ed.length)):=by
 obtain⟨h1,h2,_⟩:=bx.1 hp;have hi:=hx.sh.aN;have ho:=hx.ob;have hco:=hx.sh.co;have hed:=hx.ed
 have he:∀i,i<p.ed.length->∃k:Nat,p.ed.getD i 0=k/\k<s.fr.length:=fun i hi=>by
  have hm:=kF hp (i:=i+1) hi;rw[bT hi 0] at hm;obtain⟨k,k1,k2,_⟩:=po hm;exact⟨k,k1,k2⟩
 unfold au.sL;refine aC Go.Proofs.Tryz.func47 Fc ?_;unfold y7 ae vg;simp only[go_sem];refine⟨by omega,?_⟩;refine aJ [] (fun(i:Nat)=>[(5,.int .i64 (x.arr p i)),(6,.int .i64 i)]) (fun i=>i<=p.ed.length) (fun i=>p.ed.length-i) 0 (by simp only[go_sem];rfl) (Nat.zero_le _) rfl ?_;intro i hi;simp only[go_sem];refine⟨fun h1=>?_,fun h1=>by rw[show i=p.ed.length by omega]⟩;obtain⟨k,k1,k2⟩:=he i h1;obtain⟨a1,a2,_⟩:=hx.ar k k2;obtain⟨h,m,h3,h4,_⟩:=au.nr hx hp i (by omega);have hr:=hx.sh.row h h4
 have e:x.arr p (i+1)=(x.c.co.getD (x.arr p i).toNat []).getD (x.ed.getD (p.ed.getD i 0).toNat 0).toNat 0:=by
  unfold au.arr;rw[bT h1 0,List.foldl_append];rfl
 refine⟨by omega,h1,by omega,by rw[h3,k1,Int.toNat_natCast,Int.toNat_natCast];exact⟨a1,by omega⟩,i+1,h1,by omega,?_⟩;rw[e,aH h1 (by simp only[maxLen];omega)]
def BC:List Nat:=[0,2,1,3,4,5,6]
def Jb:Sl:=ae Go.Proofs.Tryz.types Go.Proofs.Tryz.f43 BC []
theorem Q3:aD Go.Proofs.Tryz.prog Go.Proofs.Tryz.f43 BC Jb 1=true:=by decide +kernel
theorem ow(m:Smp):al Go.Proofs.Tryz.prog 43 [.v (Smp.d m)] (.bool m.okB):=by
 refine fD fun hw=>?_
 simp only[dj,Smp.d,Smp.cells,D.dx,gC,fH] at hw;refine aC Go.Proofs.Tryz.func43 Q3 ?_;unfold Jb ae BC;simp only[go_sem];refine af (G6 m.src) rfl (.inl rfl) ?_;simp only[go_sem];refine bt (fun _=>G6 m.av) rfl (fun h=>h) (.inl rfl) ?_;simp only[go_sem];refine⟨(fun h=>by simp only[Bool.not_eq_false'] at h|-;exact h),(fun h=>by simp only[Bool.or_eq_false_iff,Bool.and_eq_true,Bool.not_eq_false'] at h|-;exact h),(fun h=>by simp only[Bool.or_eq_false_iff,Bool.and_eq_true,Bool.not_eq_true',Bool.not_eq_false'] at h|-;exact h),bt (fun _=>qe m.av.nd m.aX) rfl (fun h=>h) (.inl rfl) ?_⟩;simp only[go_sem];refine⟨(fun h=>by simp only[Bool.or_eq_false_iff,Bool.and_eq_true,Bool.not_eq_true',Bool.not_eq_false'] at h|-;exact h),fun h1=>?_,fun h1=>?_⟩
 ·cases hb:m.okB with
  | false=>rfl
  | true =>
   simp only[Smp.okB,Bool.and_eq_true,beq_iff_eq] at hb;obtain⟨⟨⟨⟨⟨b1,b2⟩,b3⟩,b4⟩,b5⟩,_⟩:=hb;rw[b1,b2,b3,b4,b5] at h1;simp at h1
 simp only[Bool.or_eq_false_iff,Bool.not_eq_false',bne_eq_false_iff_eq] at h1;obtain⟨⟨⟨⟨b1,b2⟩,b3⟩,b5⟩,b4⟩:=h1;have hss:=fg (eB b1).1;have hts:=fg (eB b2).1;have hto:=hss.to;have hel:m.aL.length=m.src.fr.length:=by omega
 have hok:m.okB=cm m.aL.length m.gH:=by
  unfold Smp.okB;rw[b1,b2,b3,b4,hel];simp
 refine aJ [6] (fun(e:Nat)=>[(5,.int .i64 e)]) (fun e=>e<=m.aL.length/\cm e m.gH=true) (fun e=>m.aL.length-e) 0 (by simp only[go_sem];rfl) ⟨Nat.zero_le _,rfl⟩ rfl ?_;rintro e ⟨he,ha⟩;simp only[go_sem];refine⟨fun h2=>⟨h2,?_⟩,fun h2=>?_⟩
 ·refine af (yW m.av (m.aL.getD e Pth.zero) hts.to hts.n0) rfl (.inl rfl) ?_
  have hfr:=fP hss.fr (show e<m.src.fr.length by omega);have htr:=fP hss.vf (show e<m.src.to.length by omega);have hwe:=aH h2 (show m.aL.length<=maxLen by have:=hss.f8;simp only[maxLen];omega);have hstop:m.gH e=false->false=m.okB:=fun hx=>by rw[hok,nn h2 hx]
  cases hE:m.av.aB (m.aL.getD e Pth.zero) with
  | none =>
   simp only[Option.isSome_none];simp only[go_sem];refine bt (res:=.int .i64 0) (fun h=>by cases h) rfl (fun h=>by cases h) (.inl rfl) ?_;simp only[go_sem];exact hstop (by unfold Smp.gH;rw[hE];simp)
  | some y =>
   simp only[Option.isSome_some];simp only[go_sem];refine⟨by omega,⟨hfr.1,by omega⟩,bt (fun _=>mM m.av (m.aL.getD e Pth.zero) y hts.to hE) rfl (fun h=>h) (.inl rfl) ?_⟩;simp only[go_sem];refine⟨fun h=>⟨h,by omega⟩,fun h=>⟨h,htr.1,by omega⟩,fun h=>by rw[h];rfl,fun h=>hstop ?_,fun h=>⟨e+1,⟨h2,jP ha ?_⟩,by omega,by rw[hwe]⟩⟩
   ·unfold Smp.gH
    rw[hE];simp only[Bool.or_eq_true,bne_iff_ne] at h;simp only[Bool.and_eq_false_iff,beq_eq_false_iff_ne,ne_eq,Option.some.injEq];exact h
   ·unfold Smp.gH
    rw[hE];simp only[Bool.or_eq_false_iff,bne_eq_false_iff_eq] at h;rw[h.1,h.2];simp
 ·rw[hok,show m.aL.length=e by omega,ha]
def BA:List Nat:=[0,1,4,2,3,5,6]
def I9:Sl:=ae Go.Proofs.Tryz.types Go.Proofs.Tryz.f73 BA []
theorem Q1:aD Go.Proofs.Tryz.prog Go.Proofs.Tryz.f73 BA I9 2=true:=by decide +kernel
theorem Ha{m:Smp}(hm:m.Ok)(a:au){b:au}(hb:fY m.av b){p:Pth}{y:Int}(hp:m.src.aB p=some y):al Go.Proofs.Tryz.prog 73 [.v (.agg (bG m a b)),.v (Pth.d p)] (.int .i64 (m.eX b p p.ed.length)):=by
 obtain⟨h1,h2,_⟩:=bx.1 hp;have hn:=hm.n;have hi:=hb.sh.aN;have ho:=hb.ob;have hco:=hb.sh.co;have hr:=hm.r p.st.toNat (by omega);unfold bG au.sL;refine aC Go.Proofs.Tryz.func73 Q1 ?_;unfold I9 ae BA;simp only[go_sem];refine⟨by omega,by omega,?_⟩;refine aJ [] (fun(i:Nat)=>[(5,.int .i64 (m.eX b p i)),(6,.int .i64 i)]) (fun i=>i<=p.ed.length) (fun i=>p.ed.length-i) 0 (by simp only[go_sem];rfl) (Nat.zero_le _) rfl ?_;intro i hi;simp only[go_sem];refine⟨fun h3=>?_,fun h3=>?_⟩
 ·obtain⟨k,c,k1,k2,k3,c1,c2,c3,c4,f1,f2⟩:=Smp.wz hm hb hp h3
  obtain⟨h,n,i1,i2,i3,i4⟩:=Smp.tn hm hb hp i (by omega);have aI:=Smp.wW (m:=m) (b:=b) h3;rw[k1,Int.toNat_natCast,c1] at aI;have hrow:=hb.sh.row h i2;have hw:=aH h3 (show p.ed.length<=maxLen by simp only[maxLen];omega);simp only[k1,Int.toNat_natCast];refine⟨h3,by omega,af (GD hb k3) rfl (.inl rfl) ?_⟩;rw[c1];simp only[go_sem];refine af (TO b.c (m.eX b p i) (c:Int) (by omega) (by omega) (by omega) (by rw[i1,Int.toNat_natCast];omega)) rfl (.inl rfl) ?_;simp only[go_sem];exact⟨i+1,h3,by omega,by rw[aI,hw]⟩
 ·rw[show i=p.ed.length by omega]
def BD:List Nat:=[0,2,1,3]
def Jc:Sl:=ae Go.Proofs.Tryz.types Go.Proofs.Tryz.f72 BD []
theorem Q4:aD Go.Proofs.Tryz.prog Go.Proofs.Tryz.f72 BD Jc 1=true:=by decide +kernel
theorem TX{m:Smp}(hm:m.Ok)(a:au){b:au}(hb:fY m.av b):al Go.Proofs.Tryz.prog 72 [.v (.agg (bG m a b))] (.bool (m.dK b)):=by
 obtain⟨hk1,hlf,hrt⟩:=eB hm.s;have him:=fun {p y}(hp:m.src.aB p=some y)=>Ha hm a hb hp
 unfold bG au.sL at him|-
 refine aC Go.Proofs.Tryz.func72 Q4 ?_;unfold Jc ae BD;simp only[go_sem];refine aJ [] (fun(i:Nat)=>[(3,.int .i64 i)]) (fun i=>i<=m.src.lf.length/\cm i (fun i=>m.eX b (m.src.lf.getD i Pth.zero) (m.src.lf.getD i Pth.zero).ed.length == m.eX b (m.src.rt.getD i Pth.zero) (m.src.rt.getD i Pth.zero).ed.length)=true) (fun i=>m.src.lf.length-i) 0 (by simp only[go_sem];rfl) ⟨Nat.zero_le _,rfl⟩ rfl ?_;rintro i ⟨hi,ha⟩;simp only[go_sem];refine⟨fun h1=>?_,fun h1=>?_⟩
 ·obtain⟨z,hp,hq,aI⟩:=ok_eq hm.s h1
  refine⟨h1,af (him hp) rfl (.inl rfl) ?_⟩;simp only[go_sem];refine⟨by omega,af (him hq) rfl (.inl rfl) ?_⟩;simp only[go_sem];refine⟨fun h2=>?_,fun h2=>⟨i+1,⟨h1,jP ha (by rw[beq_iff_eq];rwa [bne_eq_false_iff_eq] at h2)⟩,by omega,by rw[aH h1 (by simp only[maxLen];omega)]⟩⟩;unfold Smp.dK;rw[nn h1 (by rw[bne_iff_ne] at h2;exact beq_eq_false_iff_ne.2 h2)]
 ·unfold Smp.dK
  rw[show m.src.lf.length=i by omega,ha]
def Bz:List Nat:=[0,2,1,3,4]
def I8:Sl:=ae Go.Proofs.Tryz.types Go.Proofs.Tryz.f27 Bz []
theorem Q0:aD Go.Proofs.Tryz.prog Go.Proofs.Tryz.f27 Bz I8 1=true:=by decide +kernel
theorem TW{m:Smp}(hm:m.Ok){a b:au}(ha:m.src.aU=some a)(hb:m.av.aU=some b):al Go.Proofs.Tryz.prog 27 [.v (.agg (bG m a b))] (bX.d ⟨a.c,b.c,m.aX,m.dW b a.ls⟩):=by
 have hta:=iv hm.s ha;have htb:=iv hm.t hb;obtain⟨hsp,h40⟩:=rN hm.s ha;have hn:=hm.n;have hn8:=(fg (eB hm.s).1).n8;have him:=fun {p y}(hp:m.src.aB p=some y)=>Ha hm a htb hp
 unfold bG au.sL at him|-
 refine aC Go.Proofs.Tryz.func27 Q0 ?_;unfold I8 ae Bz;simp only[go_sem];refine aJ [] (fun(i:Nat)=>[(3,.o (ints (m.dW b (a.ls.take i)))),(4,.int .i64 i)]) (fun i=>i<=a.ls.length) (fun i=>a.ls.length-i) 0 (by simp only[go_sem];rfl) (Nat.zero_le _) rfl ?_;intro i hi;have hal:∀l,(m.dW b l).length=l.length:=fun l=>List.length_map _
 simp only[go_sem];refine⟨fun h1=>?_,fun h1=>?_⟩
 ·obtain⟨y,hy⟩:=hsp _ (cH (d:=Pth.zero) h1)
  refine⟨h1,af (him hy) rfl (.inl rfl) ?_⟩;simp only[go_sem];refine⟨by rw[hal,List.length_take];omega,i+1,h1,by omega,?_⟩;rw[aH h1 (by simp only[maxLen];omega),bT h1 Pth.zero];unfold Smp.dW;rw[List.map_append];rfl
 ·rw[List.take_of_length_le (by omega)]
  refine af (TP a.c b.c m.aX (m.dW b a.ls) hta.sh.CW htb.sh.CW (by omega) (by rw[hal];omega)) rfl (.inl (Fa _)) ?_;simp only[go_sem]
end Go.D3
