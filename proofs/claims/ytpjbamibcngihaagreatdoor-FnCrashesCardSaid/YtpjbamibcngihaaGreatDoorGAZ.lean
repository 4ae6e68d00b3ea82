/- PLAIN LAWS: a journal that is cut behind its good part. -/
import Derived.Test.YtpjbamibcngihaaGreatDoorGAY
import Derived.Test.YtpjbamibcngihaaGreatDoorGAU
namespace Go.D3
open Go
set_option maxHeartbeats 4000000
set_option maxRecDepth 100000
def A9:List Nat:=[0,1,4,5]
def I8:Sl:=ak Go.Proofs.Tryz.types Go.Proofs.Tryz.f17 A9 []
theorem Rf:aF Go.Proofs.Tryz.prog Go.Proofs.Tryz.f17 A9 I8 2=true:=by decide +kernel
theorem pW(a b:List Int):aC Go.Proofs.Tryz.prog 17 [.v (ints a),.v (ints b)] (.bool (a == b)):=by
 refine ei fun hw=>?_
 simp only[dc,eW] at hw;have hla:=hw.1.1;have hlb:=hw.2.1.1;refine aQ Go.Proofs.Tryz.func17 Rf ?_;unfold I8 ak A9;simp only[go_sem];refine⟨fun h=>?_,fun h=>?_⟩
 ·have hne:a≠b:=fun hh=>by subst hh;simp at h
  exact(beq_eq_false_iff_ne.2 hne).symm
 have hl:a.length=b.length:=Int.ofNat.inj (by simpa using h);refine aE [] (fun(i:Nat)=>[(3,.int .i64 i)]) (fun i=>i<=a.length/\a.take i=b.take i) (fun i=>a.length-i) 0 (by simp only[go_sem];rfl) ⟨Nat.zero_le _,rfl⟩ rfl ?_;rintro i ⟨hi,ht⟩;simp only[go_sem];refine⟨fun h1=>?_,fun h1=>?_⟩
 ·refine⟨h1,by omega,fun h2=>?_,fun h2=>⟨i+1,⟨h1,?_⟩,by omega,by rw[aM h1 hla]⟩⟩
  ·have hne:a≠b:=fun hh=>by subst hh;simp at h2
   exact(beq_eq_false_iff_ne.2 hne).symm
  ·rw[cH h1 0,cH (by omega:i<b.length) 0,ht]
   congr 2;simpa using h2
 ·rw[List.take_of_length_le (by omega),List.take_of_length_le (by omega)] at ht
  rw[ht];simp
def Bb:List Nat:=[0,1,4,5]
def Ja:Sl:=ak Go.Proofs.Tryz.types Go.Proofs.Tryz.f18 Bb []
theorem Ri:aF Go.Proofs.Tryz.prog Go.Proofs.Tryz.f18 Bb Ja 2=true:=by decide +kernel
theorem rN(a b:List (List Int)):aC Go.Proofs.Tryz.prog 18 [.v (aI a),.v (aI b)] (.bool (a == b)):=by
 refine ei fun hw=>?_
 simp only[dc,eW] at hw;have hla:=hw.1.1;have hlb:=hw.2.1.1;refine aQ Go.Proofs.Tryz.func18 Ri ?_;unfold Ja ak Bb;simp only[go_sem];refine⟨fun h=>?_,fun h=>?_⟩
 ·have hne:a≠b:=fun hh=>by subst hh;simp at h
  exact(beq_eq_false_iff_ne.2 hne).symm
 have hl:a.length=b.length:=Int.ofNat.inj (by simpa using h);refine aE [] (fun(i:Nat)=>[(3,.int .i64 i)]) (fun i=>i<=a.length/\a.take i=b.take i) (fun i=>a.length-i) 0 (by simp only[go_sem];rfl) ⟨Nat.zero_le _,rfl⟩ rfl ?_;rintro i ⟨hi,ht⟩;simp only[go_sem];refine⟨fun h1=>?_,fun h1=>?_⟩
 ·refine⟨h1,by omega,av (pW _ _) rfl (.inl rfl) ?_⟩
  simp only[go_sem];refine⟨fun h2=>?_,fun h2=>⟨i+1,⟨h1,?_⟩,by omega,by rw[aM h1 hla]⟩⟩
  ·have hne:a≠b:=fun hh=>by subst hh;simp at h2
   exact(beq_eq_false_iff_ne.2 hne).symm
  ·rw[cH h1 [],cH (by omega:i<b.length) [],ht]
   congr 2;simpa using h2
 ·rw[List.take_of_length_le (by omega),List.take_of_length_le (by omega)] at ht
  rw[ht];simp
def Bc:List Nat:=[0,2,3,4]
def Jb:Sl:=ak Go.Proofs.Tryz.types Go.Proofs.Tryz.f24 Bc []
theorem Rj:aF Go.Proofs.Tryz.prog Go.Proofs.Tryz.f24 Bc Jb 1=true:=by decide +kernel
theorem UI(l:List Int)(h0:∀x∈l,x=0):aC Go.Proofs.Tryz.prog 24 [.v (ints l)] (.int .i64 0):=by
 refine ei fun hw=>?_
 simp only[dc,eW] at hw;have hl:=hw.1.1;refine aQ Go.Proofs.Tryz.func24 Rj ?_;unfold Jb ak Bc;simp only[go_sem];refine aE [] (fun(i:Nat)=>[(3,.int .i64 i)]) (fun i=>i<=l.length) (fun i=>l.length-i) 0 (by simp only[go_sem];rfl) (Nat.zero_le _) rfl ?_;intro i hi;simp only[go_sem];refine fun h1=>⟨h1,i+1,h1,by omega,?_⟩
 have hz:l.getD i 0=0:=h0 _ (by rw[aS h1];exact List.getElem_mem _);rw[hz,aM h1 hl];rfl
def xI:Option aa->D
 | none=>.au [aa.d aa.zero,.int .i64 6]
 | some s=>.au [aa.d s,.int .i64 0]
def At:List Nat:=[0,2,3,4,6]
def Is:Sl:=ak Go.Proofs.Tryz.types Go.Proofs.Tryz.f15 At [(0,43)]
theorem Qz:aF Go.Proofs.Tryz.prog Go.Proofs.Tryz.f15 At Is 1=true:=by decide +kernel
theorem Hx(t:List UInt8)(ht:t.length<=1048576):fV Go.Proofs.Tryz.prog 15 [.str t] [] (.o (xI ((cL t).map (·.1)))) []:=by
 refine mN .tree Go.Proofs.Tryz.func15 Qz ?_;unfold Is ak At;simp only[go_sem];refine bf [] false (HF t (by omega)) ?_;rintro _ _ ⟨rfl,s,n,b,rfl,hb,hs⟩;refine⟨(by repeat(first | exact trivial | refine⟨(fun h=>by cases h),?_⟩)),(fun h=>by cases h),?_⟩;simp only[go_sem];cases hh:cL t with
 | none =>
  rw[hh] at hb;subst hb;simp only[go_sem];exact⟨fun _=>rfl,fun h=>absurd h (by decide)⟩
 | some p =>
  rw[hh] at hb;obtain⟨rfl,-⟩:=hs p hh;subst hb;simp only[go_sem];exact⟨fun h=>absurd h (by simp),fun _=>rfl⟩
def Ar:List Nat:=[0,1,2,6,7,8,3,9,10]
def Iq:Sl:=ak Go.Proofs.Tryz.types Go.Proofs.Tryz.f25 Ar []
theorem Qx:aF Go.Proofs.Tryz.prog Go.Proofs.Tryz.f25 Ar Iq 3=true:=by decide +kernel
theorem Uj(s:aa)(sz:List Int)(mp:List (List Int))(hok:s.ok=true)(hr:s.gK sz mp=true)(hb:s.sT sz mp)(hsz:∀x∈sz,x<=4611686018427387900)(hn:s.fY sz mp s.lf.length=none) :
  aC Go.Proofs.Tryz.prog 25 [.v (aa.d s),.v (ints sz),.v (aI mp)] (.au [.int .i64 (-1),.int .i64 0,.int .i64 0]):=by
 refine aQ Go.Proofs.Tryz.func25 Qx ?_;unfold Iq ak Ar;simp only[go_sem];refine av (zp s) rfl (.inl rfl) ?_;rw[hok];simp only[go_sem];refine av (zo s sz mp (dM hok).1) rfl (.inl rfl) ?_;rw[hr];simp only[go_sem];have hbk:=HA s sz mp hb hsz;rw[hn] at hbk;unfold nB at hbk;refine av hbk rfl (.inl rfl) ?_;simp only[go_sem]
end Go.D3
namespace Go.D3
open Go
def af.vl(d:af)(e i:Nat):Int:=(d.mp.getD e []).getD i 0
def af.ln(d:af)(e:Nat):Nat:=(d.mp.getD e []).length
def ah.eU(c:ah)(e i:Int):Bool:=decide (c.kd=2)&&decide (c.fi=e)&&decide (c.se=i)
theorem rU{c:ah}{e i:Int}:c.eU e i=true↔c.kd=2/\c.fi=e/\c.se=i:=by
 unfold ah.eU;rw[Bool.and_eq_true,Bool.and_eq_true,decide_eq_true_eq,decide_eq_true_eq,decide_eq_true_eq,and_assoc]
theorem Qr{c:ah}(h:c.okB=true)(hk:¬c.kd=1):c.kd=2:=by
 unfold ah.okB at h;rw[if_neg hk,beq_iff_eq] at h;exact h
theorem LA{s:aa}{d:af}{c:ah}(h:br s d)(hc:d.can s c=true){e i:Nat}(he:e<s.fr.length) :
  d.ln e<=(d.app s c).ln e/\(c.eU e i=true->i<d.ln e)/\(c.eU e i=false->(i<d.ln e->(d.app s c).vl e i=d.vl e i)/\(d.ln e<=i->i<(d.app s c).ln e->(d.app s c).vl e i=-1)):=by
 have hmf:=h.mp;unfold af.can at hc;rw[Bool.and_eq_true] at hc;unfold af.app af.vl af.ln;by_cases hk:c.kd=1
 ·rw[if_pos hk]
  have hmp:(fu d.mp (eD s.fr c.fi s.fr.length)).getD e []=if e<s.fr.length/\s.fr.getD e 0=c.fi then d.mp.getD e []++[-1] else d.mp.getD e []:=sF (by omega) e
  dsimp only;rw[hmp];by_cases hx:e<s.fr.length/\s.fr.getD e 0=c.fi
  ·rw[if_pos hx,List.length_append,List.length_cons,List.length_nil]
   refine⟨by omega,fun hs=>?_,fun _=>⟨fun hi=>?_,fun h1 h2=>?_⟩⟩
   ·have:=(rU.1 hs).1;omega
   ·rw[List.getD_eq_getElem?_getD,List.getElem?_append,if_pos hi,<-List.getD_eq_getElem?_getD]
   ·rw[List.getD_eq_getElem?_getD,List.getElem?_append,if_neg (by omega),show i-(d.mp.getD e []).length=0 by omega];rfl
  ·rw[if_neg hx]
   refine⟨Nat.le_refl _,fun hs=>?_,fun _=>⟨fun _=>rfl,fun h1 h2=>by omega⟩⟩;have:=(rU.1 hs).1;omega
 ·rw[if_neg hk]
  rw[if_neg hk] at hc;simp only[Bool.and_eq_true,aP,decide_eq_true_eq] at hc;obtain⟨hok,⟨⟨h0,h1⟩,h2,h3⟩,h4,h5⟩:=hc;have hlt:c.fi.toNat<d.mp.length:=by omega
  have hl:=h.len _ hlt;have hkd:c.kd=2:=Qr hok hk;dsimp only;rw[jv hlt];by_cases hx:e=c.fi.toNat
  ·subst hx
   rw[if_pos rfl,List.length_set];refine⟨Nat.le_refl _,fun hs=>?_,fun hs=>⟨fun hi=>?_,fun _ _=>by omega⟩⟩
   ·have:=(rU.1 hs).2.2
    omega
   ·have hn:¬i=c.se.toNat:=by
     intro hi2;have:c.eU (c.fi.toNat:Int) (i:Int)=true:=rU.2 ⟨hkd,by omega,by omega⟩;rw[this] at hs;cases hs
    rw[jv (by omega),if_neg hn]
  ·rw[if_neg hx]
   refine⟨Nat.le_refl _,fun hs=>?_,fun _=>⟨fun _=>rfl,fun h1 h2=>by omega⟩⟩;have:=(rU.1 hs).2.1;omega
theorem CT{s:aa}(hs:cQ s){e i:Nat}(he:e<s.fr.length):∀{l:List ah}{d d2:af},br s d->af.all s d l=some d2 ->
  d.ln e<=d2.ln e/\((∃c∈l,c.eU e i=true)->i<d2.ln e)/\((∀c∈l,c.eU e i=false)->(i<d.ln e->d2.vl e i=d.vl e i)/\(d.ln e<=i->i<d2.ln e->d2.vl e i=-1))
 | [],d,d2,h,ha=>by
  cases ha;exact⟨Nat.le_refl _,(fun⟨_,hm,_⟩=>by cases hm),fun _=>⟨fun _=>rfl,fun h1 h2=>by omega⟩⟩
 | c::l,d,d2,h,ha=>by
  rw[af.all] at ha;split at ha
  ·rename_i hc
   obtain⟨a1,a2,a3⟩:=LA (i:=i) h hc he;obtain⟨b1,b2,b3⟩:=CT hs (i:=i) he (h.app hs hc) ha;refine⟨by omega,fun⟨x,hm,hx⟩=>?_,fun hn=>?_⟩
   ·rcases List.mem_cons.1 hm with rfl | hm
    ·have:=a2 hx;omega
    ·exact b2 ⟨x,hm,hx⟩
   ·obtain⟨c1,c2⟩:=a3 (hn c List.mem_cons_self)
    obtain⟨d1,d2⟩:=b3 fun x hx=>hn x (List.mem_cons_of_mem _ hx)
    refine⟨fun hi=>by rw[d1 (by omega),c1 hi],fun h1 h2=>?_⟩;by_cases h3:i<(d.app s c).ln e
    ·rw[d1 h3,c2 h1 h3]
    ·exact d2 (by omega) h2
  ·cases ha
structure jb(s:aa)(H:Hs):Prop where
 dl:H.dt.length=H.tx.length+1
 d0:H.dt.getD 0 af.zero=bW s
 st:∀j,j<H.tx.length->ca s (H.dt.getD j af.zero) (H.tx.getD j [])=some (H.dt.getD (j+1) af.zero)
theorem tv{α:Type}{l m:List α}{j:Nat}{z:α}:(l++m).getD j z=if j<l.length then l.getD j z else m.getD (j-l.length) z:=by
 rw[List.getD_eq_getElem?_getD,List.getElem?_append];split<;>rw[List.getD_eq_getElem?_getD]
theorem jb.push{s:aa}{H:Hs}{d:af}{l:List ah}{e:Nat}(h:jb s H)(hg:ca s H.last l=some d):jb s (H.push d l e):=by
 have hl:=h.dl;refine⟨?_,?_,fun j hj=>?_⟩
 ·simp only[Hs.push,List.length_append,List.length_cons,List.length_nil];omega
 ·show(H.dt++[d]).getD 0 af.zero=_
  rw[tv,if_pos (by omega)];exact h.d0
 ·have hj:j<(H.tx++[l]).length:=hj
  rw[List.length_append,List.length_cons,List.length_nil] at hj;show ca s ((H.dt++[d]).getD j af.zero) ((H.tx++[l]).getD j [])=some ((H.dt++[d]).getD (j+1) af.zero);rw[tv,if_pos (by omega),tv,tv];by_cases h1:j<H.tx.length
  ·rw[if_pos h1,if_pos (by omega)];exact h.st j h1
  ·rw[if_neg h1,if_neg (by omega),show j-H.tx.length=0 by omega,show j+1-H.dt.length=0 by omega]
   unfold Hs.last at hg;rw[show H.dt.length-1=j by omega] at hg;exact hg
theorem Vv{s:aa}{t:List UInt8}:∀(k a:Nat)(cs:List ah)(H:Hs),t.length-a<=k->jb s H->jb s (dh s t a cs H):=by
 intro k;induction k with
 | zero =>
  intro a cs H hk h;rw[ia];cases hl:dk t a with
  | none=>exact h
  | some l=>have:=gE hl;omega
 | succ k ih =>
  intro a cs H hk h;rw[ia];cases hl:dk t a with
  | none=>exact h
  | some l =>
   have h1:=gE hl;dsimp only;split
   ·cases hgo:ca s H.last cs with
    | none=>exact h
    | some d=>exact ih _ _ _ (by omega) (h.push hgo)
   ·cases dR l with
    | none=>exact h
    | some c =>
     dsimp only;split
     ·exact h
     ·exact ih _ _ _ (by omega) h
theorem zj{t:List UInt8}{p:aa×Hs}(h:bn t=some p):jb p.1 p.2:=by
 unfold bn at h;rw[Option.map_eq_some_iff] at h;obtain⟨q,h1,rfl⟩:=h;exact Vv _ _ _ _ (Nat.le_refl _) ⟨rfl,rfl,fun j hj=>absurd hj (Nat.not_lt_zero _)⟩
theorem jb.ok{s:aa}{H:Hs}(h:jb s H)(hd:∀d∈H.dt,br s d){j:Nat}(hj:j<=H.tx.length):br s (H.dt.getD j af.zero):=by
 have:=h.dl;rw[aS (by omega)];exact hd _ (List.getElem_mem _)
theorem jb.same{s:aa}{H:Hs}(hs:cQ s)(h:jb s H)(hd:∀d∈H.dt,br s d){e i:Nat}(he:e<s.fr.length){k:Nat}:∀m,k+m<=H.tx.length->(∀q,k<=q->q<k+m->∀c∈H.tx.getD q [],c.eU e i=false)->i<(H.dt.getD k af.zero).ln e->i<(H.dt.getD (k+m) af.zero).ln e/\(H.dt.getD (k+m) af.zero).vl e i=(H.dt.getD k af.zero).vl e i
 | 0,_,_,hi=>⟨hi,rfl⟩
 | m+1,hm,hn,hi=>by
  obtain⟨i1,i2⟩:=jb.same hs h hd he m (by omega) (fun q h1 h2=>hn q h1 (by omega)) hi;obtain⟨g1,_,_⟩:=pq (h.st (k+m) (by omega));obtain⟨a1,_,a3⟩:=CT hs (i:=i) he (h.ok hd (by omega)) g1;obtain⟨c1,_⟩:=a3 (hn (k+m) (by omega) (by omega));rw[<-Nat.add_assoc];exact⟨by omega,by rw[c1 i1,i2]⟩
end Go.D3
namespace Go.D3
open Go
theorem DP:∀(k n:Nat),0<k->n<10 ^ k->(Lib.decDigits n).length<=k
 | 0,_,h,_=>absurd h (Nat.lt_irrefl _)
 | k+1,n,_,hn=>by
  by_cases h:n<10
  ·rw[Lib.decDigits,dif_pos h];simp
  ·rw[s5 h,List.length_append,List.length_cons,List.length_nil]
   have h1 : 0<k:=by
    rcases Nat.eq_zero_or_pos k with h0 | h0
    ·subst h0;simp at hn;omega
    ·exact h0
   have:=DP k (n / 10) h1 (by rw[Nat.pow_succ] at hn;omega);omega
theorem pz{n:Int}(h0 : 0<=n)(h1:n<=1000000):∃m:Nat,n=m/\bA 9 (Lib.itoa n)=some m/\(32:UInt8) ∉ Lib.itoa n/\(10:UInt8) ∉ Lib.itoa n:=by
 obtain⟨m,rfl⟩:∃m:Nat,n=m:=⟨n.toNat,by omega⟩;have hd:=(wY m).1;refine⟨m,rfl,?_,?_,?_⟩
 ·rw[Lib.itoa_nonneg]
  exact wZ (DP 9 m (by omega) (by omega))
 all_goals
  rw[Lib.itoa_nonneg];intro hm;have:=List.all_eq_true.1 hd _ hm;revert this;decide
def ah.tl(c:ah):Prop:=lJ c/\c.okB=true
theorem Fp{c:ah}(h:lJ c):(10:UInt8) ∉ c.line:=by
 obtain⟨a,ha,_,_,a10⟩:=pz h.1.1 h.1.2;unfold ah.line;split
 ·intro hm
  rcases List.mem_append.1 hm with hm | hm
  ·revert hm;decide
  ·exact a10 hm
 ·rename_i hk
  obtain⟨⟨b1,b2⟩,c1,c2⟩:=h.2 hk;obtain⟨_,_,_,_,b10⟩:=pz b1 b2;obtain⟨_,_,_,_,c10⟩:=pz c1 c2;intro hm;simp only[List.mem_append] at hm;rcases hm with((((hm | hm) | hm) | hm) | hm) | hm
  ·revert hm;decide
  ·exact a10 hm
  ·revert hm;decide
  ·exact b10 hm
  ·revert hm;decide
  ·exact c10 hm
theorem Mf{c:ah}(h:c.tl):dR c.line=some c:=by
 obtain⟨hc,hk⟩:=h;obtain⟨kd,fi,se,th⟩:=c;obtain⟨a,ha,na,a32,_⟩:=pz hc.1.1 hc.1.2;unfold ah.okB at hk;unfold ah.line;dsimp only at *;by_cases h1:kd=1
 ·rw[if_pos h1] at hk|-
  simp only[Bool.and_eq_true,beq_iff_eq] at hk;obtain⟨rfl,rfl⟩:=hk
  have e:aT [32] 0 ([97,100,100,32]++Lib.itoa fi)=[[97,100,100],Lib.itoa fi]:=by
   have:=oJ (c:=32) (a:=[97,100,100]) (r:=Lib.itoa fi) (by decide);rw[rY a32] at this;exact this
  unfold dR;rw[e]
  have e2:iv ([[97,100,100],Lib.itoa fi].drop 1)=some [a]:=by
   unfold iv;rw[List.drop_succ_cons,List.drop_zero,List.mapM_cons,na];rfl
  rw[e2,h1,ha];rfl
 ·rw[if_neg h1] at hk|-
  rw[beq_iff_eq] at hk;obtain⟨⟨b1,b2⟩,c1,c2⟩:=hc.2 h1;obtain⟨b,hb,nb,b32,_⟩:=pz b1 b2;obtain⟨d,hd,nd,d32,_⟩:=pz c1 c2;have hb:se=b:=hb;have hd:th=d:=hd
  have e:aT [32] 0 ([115,101,116,32]++Lib.itoa fi++[32]++Lib.itoa se++[32]++Lib.itoa th)=[[115,101,116],Lib.itoa fi,Lib.itoa se,Lib.itoa th]:=by
   have e1:=oJ (c:=32) (a:=[115,101,116]) (r:=Lib.itoa fi++[32]++(Lib.itoa se++[32]++Lib.itoa th)) (by decide);rw[oJ a32,oJ b32,rY d32] at e1;rw[<-e1];simp
  unfold dR;rw[e]
  have e2:iv ([[115,101,116],Lib.itoa fi,Lib.itoa se,Lib.itoa th].drop 1)=some [a,b,d]:=by
   unfold iv;rw[List.drop_succ_cons,List.drop_zero,List.mapM_cons,na,List.mapM_cons,nb,List.mapM_cons,nd];rfl
  rw[e2,hk,ha,hb,hd];rfl
theorem vu{t u:List UInt8}{n j:Nat}(h:u.take n=t.take n)(hj:j<n):u.getD j 0=t.getD j 0:=by
 have h1:(u.take n)[j]?=(t.take n)[j]?:=by rw[h]
 rw[List.getElem?_take_of_lt hj,List.getElem?_take_of_lt hj] at h1;rw[List.getD_eq_getElem?_getD,List.getD_eq_getElem?_getD,h1]
theorem vv{t u:List UInt8}{n a:Nat}(h:u.take n=t.take n)(ha:a<=n):u.take a=t.take a:=by
 have:=congrArg (List.take a) h
 rwa [List.take_take,List.take_take,Nat.min_eq_left ha] at this
theorem Fk{u:List UInt8}{i:Nat}(h:u.getD i 0=10):i<u.length:=by
 rcases Nat.lt_or_ge i u.length with hi | hi
 ·exact hi
 ·rw[List.getD_eq_getElem?_getD,List.getElem?_eq_none hi] at h
  exact absurd h (by decide)
theorem Ft{t u:List UInt8}{a n:Nat}{l:List UInt8}(h:dk t a=some l)(hn:a+l.length+1<=n)(hu:u.take n=t.take n):dk u a=some l:=by
 rcases rf (t:=t) (a:=a) with⟨i,h1,h2,h3,h4⟩ | hf
 ·rw[tU h1 h2 h3 h4] at h
  injection h with h
  have hl:l.length=i-a:=by rw[<-h,List.length_drop,List.length_take];omega
  have hi:u.getD i 0=10:=by rw[vu hu (by omega)];exact h3
  rw[tU h1 (Fk hi) hi fun j g1 g2=>by rw[vu hu (by omega)];exact h4 j g1 g2,vv hu (by omega),h]
 ·rw[xP hf] at h;cases h
theorem W5{t u:List UInt8}{n:Nat}(hu:u.take n=t.take n):∀(k a:Nat)(cs:List ah),t.length-a<=k->cs.length<=40->∀l e,gO t a cs=some (l,e)->e<=n->gO u a cs=some (l,e):=by
 intro k;induction k with
 | zero =>
  intro a cs h _ l e he _;rw[iE] at he;cases hl:dk t a with
  | none=>rw[hl] at he;cases he
  | some l=>have:=gE hl;omega
 | succ k ih =>
  intro a cs h h40 l e he hn;rw[iE] at he;cases hl:dk t a with
  | none=>rw[hl] at he;cases he
  | some ln =>
   have hlt:=gE hl;rw[hl,Option.bind_some] at he;split at he
   ·rename_i hx
    simp only[Option.some.injEq,Prod.mk.injEq] at he;obtain⟨rfl,rfl⟩:=he;rw[iE,Ft hl hn hu,Option.bind_some,vv hu (by omega),if_pos hx]
   ·rename_i hx
    cases hc:dR ln with
    | none=>rw[hc] at he;cases he
    | some c =>
     rw[hc,Option.bind_some] at he;split at he
     ·cases he
     ·rename_i hc40
      have h2:(cs++[c]).length<=40:=by rw[List.length_append,List.length_cons,List.length_nil];omega
      have hf:=vE _ _ _ (Nat.le_refl _) h2 _ _ he;rw[iE,Ft hl (by omega) hu,Option.bind_some,vv hu (by omega),if_neg hx,hc,Option.bind_some,if_neg hc40];exact ih _ _ (by omega) h2 _ _ he hn
theorem Ie{s:aa}{t:List UInt8}:∀(k a:Nat)(H:Hs),t.length-a<=k->H.gd<=a->H.gd<=(dh s t a [] H).gd:=by
 intro k;induction k with
 | zero =>
  intro a H h hg;rw[ia];cases hl:dk t a with
  | none=>exact Nat.le_refl _
  | some l=>have:=gE hl;omega
 | succ k ih =>
  intro a H h hg;rw[pY _ a [] (Nat.le_refl _)];cases ht:gO t a [] with
  | none=>exact Nat.le_refl _
  | some p =>
   obtain⟨l,e⟩:=p;obtain⟨_,f2,f3⟩:=vE _ _ _ (Nat.le_refl _) (by simp) _ _ ht;dsimp only;cases hg:ca s H.last l with
   | none=>exact Nat.le_refl _
   | some d =>
    have:=ih e (H.push d l e) (by omega) (Nat.le_refl _);have h2:(H.push d l e).gd=e:=rfl;dsimp only;omega
theorem Vx{s:aa}{t u:List UInt8}:∀(k a:Nat)(H:Hs),t.length-a<=k->H.gd=a->u.take (dh s t a [] H).gd=t.take (dh s t a [] H).gd->dh s u a [] H=dh s u (dh s t a [] H).gd [] (dh s t a [] H):=by
 intro k;induction k with
 | zero =>
  intro a H h hg hu
  have e:dh s t a [] H=H:=by
   rw[ia];cases hl:dk t a with
   | none=>rfl
   | some l=>have:=gE hl;omega
  rw[e,hg]
 | succ k ih =>
  intro a H h hg hu;have e:=pY (s:=s) (t:=t) (H:=H) _ a [] (Nat.le_refl _);cases ht:gO t a [] with
  | none =>
   rw[ht] at e;dsimp only at e;rw[e,hg]
  | some p =>
   obtain⟨l,b⟩:=p;obtain⟨_,f2,f3⟩:=vE _ _ _ (Nat.le_refl _) (by simp) _ _ ht;rw[ht] at e;dsimp only at e;cases hd:ca s H.last l with
   | none =>
    rw[hd] at e;dsimp only at e;rw[e,hg]
   | some d =>
    rw[hd] at e;dsimp only at e;rw[e] at hu|-
    have h1:=Ie (s:=s) (t:=t) _ b (H.push d l b) (Nat.le_refl _) (Nat.le_refl _);have h2:(H.push d l b).gd=b:=rfl;rw[pY (s:=s) (t:=u) (H:=H) _ a [] (Nat.le_refl _),W5 hu _ _ _ (Nat.le_refl _) (by simp) _ _ ht (by omega)];dsimp only;rw[hd];exact ih b (H.push d l b) (by omega) h2 hu
end Go.D3
