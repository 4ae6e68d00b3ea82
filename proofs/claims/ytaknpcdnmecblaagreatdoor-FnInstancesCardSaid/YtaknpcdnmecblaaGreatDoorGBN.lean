/- CONTRACTS: free and constant set functors, the reference's side. -/
import Derived.Test.YtaknpcdnmecblaaGreatDoorGAP
import Derived.Test.YtaknpcdnmecblaaGreatDoorGAB
namespace Go.D3
open Go
theorem Pr{L:List Int}:(fL (cT L)).length<=(fL L).length:=by
 have V:=s6 (L:=L)
 have e:cT L=L.map fun v=>(cT L).getD (L.findIdx (·== v)) 0:=by
  apply List.ext_getElem
  ·rw[List.length_map,V.len]
  ·intro i h1 I
   rw[List.length_map] at I;have S:L.findIdx (·== L[i])<L.length:=List.findIdx_lt_length_of_exists ⟨_,List.getElem_mem I,by simp⟩;have hg:=List.findIdx_getElem (w:=S);have:=(V.eq i (L.findIdx (·== L[i])) I S).2 (by rw[aM I,aM S];exact(eq_of_beq hg).symm);rw[List.getElem_map,<-this,aM h1]
 rw[e];exact Zx
structure nH(f:Sf)(cl:List (List Int)):Prop where
 len:cl.length=f.sz.length
 row:∀x,x<f.sz.length->((cl.getD x []).length:Int)=f.sz.getD x 0
 e8:∀x i,x<f.sz.length->i<(cl.getD x []).length->0<=(cl.getD x []).getD i 0/\(cl.getD x []).getD i 0<f.sz.getD x 0
def iV(cl:List (List Int)):Nat:=(cl.map fun l=>(fL l).length).sum
theorem Tf{cl:List (List Int)}{y:Nat}{q:List Int}(I:y<cl.length)(h:(fL q).length<(fL (cl.getD y [])).length):iV (cl.set y q)<iV cl:=by
 unfold iV;induction cl generalizing y with
 | nil=>cases I
 | cons x cl S =>
  cases y with
  | zero =>
   simp only[List.set_cons_zero,List.map_cons,List.sum_cons,List.getD_cons_zero] at h|-
   omega
  | succ y =>
   have:=S (y:=y) (by simpa using I) (by simpa using h);simp only[List.set_cons_succ,List.map_cons,List.sum_cons];omega
theorem GY{n:Nat}{P:List (List Int)}:(cT (bV (bk n) P)).length=n/\∀i,i<n->0<=(cT (bV (bk n) P)).getD i 0/\(cT (bV (bk n) P)).getD i 0<n:=by
 have I:=s6 (L:=bV (bk n) P);have S:(bV (bk n) P).length=n:=by rw[pR,dq]
 exact⟨by rw[I.len,S],fun i hi=>by have:=I.ge i (by omega);omega⟩
theorem nH.set{f:Sf}{cl:List (List Int)}(h:nH f cl){y:Nat}(Z:y<f.sz.length){n:Nat}(S:f.sz.getD y 0=n){P:List (List Int)}:nH f (cl.set y (cT (bV (bk n) P))):=by
 obtain⟨V,Y⟩:=GY (n:=n) (P:=P);have W:=h.len;refine⟨by rw[List.length_set,W],fun x I=>?_,fun x i I hi=>?_⟩
 ·rw[qD (by omega)]
  split
  ·rename_i e;rw[V,e,S]
  ·exact h.row x I
 ·rw[qD (by omega)] at hi|-
  split
  ·rename_i e
   rw[if_pos e,V] at hi;have:=Y i hi;rw[e,S];omega
  ·rename_i e
   rw[if_neg e] at hi;exact h.e8 x i I hi
theorem Qo{cl:List (List Int)}{y:Nat}(W:y<cl.length){u v:Nat}(hu:u<(cl.getD y []).length)(S:v<(cl.getD y []).length)(I:(cl.getD y []).getD u 0≠(cl.getD y []).getD v 0) :
  iV (cl.set y (cT (bV (bk (cl.getD y []).length) (iX (cl.getD y []) (cl.getD y []).length++[[(u:Int),(v:Int)]]))))<iV cl:=by
 refine Tf W (Nat.lt_of_le_of_lt Pr ?_);generalize cl.getD y []=p at hu S I;refine Qq (k:=fun x=>p.findIdx (·== x)) (fun i hi=>?_) (fun i hi=>?_) hu S I (by simp) ?_
 ·rw[aM hi]
  exact List.findIdx_lt_length_of_exists ⟨_,List.getElem_mem hi,by simp⟩
 ·refine List.mem_append_left _ (List.mem_map.2 ⟨i,List.mem_range.2 hi,?_⟩)
  have V:p.findIdx (·== p.getD i 0)<p.length:=by
   rw[aM hi];exact List.findIdx_lt_length_of_exists ⟨_,List.getElem_mem hi,by simp⟩
  unfold gq;rw[if_pos V]
 ·rw[dq]
theorem Qp{p:List Int}{u v:Nat}(hu:u<p.length)(W:v<p.length):∀k,k<(iX p p.length++[[(u:Int),(v:Int)]]).length->∃a b:Nat,(iX p p.length++[[(u:Int),(v:Int)]]).getD k []=[(a:Int),(b:Int)]/\a<p.length/\b<p.length:=fun k hk=>by
 rw[ee (by rw[List.length_append,List.length_singleton] at hk;omega)];split
 ·exact⟨u,v,rfl,hu,W⟩
 ·rename_i S
  rw[List.length_append,List.length_singleton,uh] at hk;rw[uh] at S;have I:k<p.length:=by omega
  have V:p.findIdx (·== p.getD k 0)<p.length:=by
   rw[aM I];exact List.findIdx_lt_length_of_exists ⟨_,List.getElem_mem I,by simp⟩
  refine⟨p.findIdx (·== p.getD k 0),k,?_,V,I⟩;unfold iX;rw[List.getD_eq_getElem?_getD,List.getElem?_map,List.getElem?_range I];show[gq p (p.getD k 0),(k:Int)]=_;unfold gq;rw[if_pos V]
end Go.D3
namespace Go.D3
open Go Proofs
set_option maxHeartbeats 4000000
set_option maxRecDepth 100000
def xP(n:Int)(c:af)(rc:D)(gs:List D):Prop:=gs=[]/\∃f:Sf,rc=.o f.d/\qO n c f
def DO:List Nat:=[0,1,4,2,5,6,7,8,9,10,11,12,13,14]
def LW:Sl:=ah Tryz.types Tryz.f161 DO [(3,13)]
theorem Vu:aE Tryz.prog Tryz.f161 DO LW 2=true:=by decide +kernel
theorem Y4(c:af)(ob:List Int)(I:c.Shape)(b4:ob.length<=3):bn Tryz.prog 161 [c.d,ints ob] [] (xP 120 c):=by
 have h8:=I.ox;have h0:=I.cZ;have a1:=I.fr;have cr:=I.to;have cm:=I.co;refine dB .tree Tryz.func161 Vu ?_;unfold LW ah DO;simp only[go_sem];refine⟨⟨h0,Int.le_refl _,by omega⟩,?_⟩;refine au [6] (fun(p:Nat×List (List (List Int)))=>[(5,.int .i64 p.1),(4,.o (iS p.2))]) (fun p=>p.1<=ob.length/\gb c ob p.1 0 p.2) (fun p=>ob.length-p.1) (0,List.replicate c.ob.toNat []) (by simp only[go_sem];rfl) ⟨Nat.zero_le _,gb.zero⟩ rfl ?_;rintro⟨k,L⟩ ⟨hk,hI⟩;simp only at hk hI;simp only[go_sem];refine⟨fun W=>?_,fun W=>?_⟩
 ·refine au [] (fun(p:Nat×List (List (List Int)))=>[(6,.int .i64 p.1),(4,.o (iS p.2))]) (fun p=>p.1<=c.fr.length/\gb c ob k p.1 p.2) (fun p=>c.fr.length-p.1) (0,L) (by simp only[go_sem];rfl) ⟨Nat.zero_le _,hI⟩ rfl ?_
  rintro⟨h,L1⟩ ⟨hh,S⟩;simp only at hh S;have bF:=S.len;simp only[go_sem];refine⟨fun h1=>?_,fun h1=>?_⟩
  ·have hF:=I.jO h1
   have hT:=I.lz h1;obtain⟨t,ht⟩:∃t:Nat,c.to.getD h 0=t:=⟨(c.to.getD h 0).toNat,by omega⟩;have a6:=I.an;have a8:t<L1.length:=by omega
   have cq:=S.sz t;have b2:k*c.fr.length<=2*40:=Nat.mul_le_mul (by omega) a1
   have b0:((List.map aC L1).set t D.dead).getD t (aC [])=.dead:=by
    rw[aM (by rw[List.length_set,List.length_map];exact a8),List.getElem_set_self]
   have bT:(D.dead).cells.length=1:=rfl;have hw:=aw h1 (show c.fr.length<=maxLen by simp only[maxLen];omega);refine⟨h1,W,fun V=>?_,fun V=>⟨(h+1,L1),⟨h1,S.SB (by simpa using V)⟩,by simp only;omega,by rw[hw]⟩⟩;have b3:=S.hit W h1 V ht a8
   have aK:D.slice (aC []) ((List.map aC L1).set t (aC (L1.getD t []++[[(k:Int),(h:Int)]])))=iS (L1.set t (L1.getD t []++[[(k:Int),(h:Int)]])):=by
    simp only[iS,ae,List.map_set]
   simp only[ht,Int.toNat_natCast,b0,dM,List.length_set,List.length_map,List.set_set,aK,bT]
   repeat'(refine And.intro ?_ ?_)
   all_goals first | trivial | omega | exact⟨(h+1,_),⟨h1,b3⟩,by simp only;omega,by rw[hw]⟩
  ·refine⟨(k+1,L1),⟨W,?_⟩,by simp only;omega,by rw[aw W (by simp only[maxLen];omega)]⟩
   rw[show h=c.fr.length by omega] at S;exact S.next
 obtain rfl:k=ob.length:=by omega
 have bF:=hI.len
 have ao:∀y,(L.getD y []).length<=120:=fun y=>by
  have:=hI.sz y;have b2:ob.length*c.fr.length<=3*40:=Nat.mul_le_mul b4 a1;omega
 refine aj (uA c I.cost) rfl (.inl (dA _)) ?_;simp only[go_sem];refine au [] (fun(p:Nat×List Int)=>[(8,.int .i64 p.1),(7,.box [.int .i64 c.ob,.o (ints c.fr),.o (ints c.to),.o (ints c.an),.o (aC c.co),.o (ints p.2),.o (aC [])])]) (fun p=>p.1<=L.length/\p.2.length=p.1/\∀y,y<p.1->p.2.getD y 0=((L.getD y []).length:Nat)) (fun p=>L.length-p.1) (0,[]) (by simp only[go_sem];rfl) ⟨Nat.zero_le _,rfl,fun y hy=>absurd hy (Nat.not_lt_zero _)⟩ rfl ?_;rintro⟨y,sz⟩ ⟨hy,Z,Y⟩;simp only at hy Z Y;simp only[go_sem];refine⟨fun h1=>⟨h1,by omega,(y+1,sz++[((L.getD y []).length:Int)]),⟨h1,by rw[List.length_append,Z];rfl,fun y' bg=>?_⟩,by simp only;omega,by rw[aw h1 (by simp only[maxLen];omega)]⟩,fun h1=>?_⟩
 ·rw[ee (by simp only at bg;omega)]
  split
  ·rename_i e;rw[e,Z]
  ·exact Y y' (by simp only at bg;omega)
 obtain rfl:y=L.length:=by omega
 refine au [10,11,12,13] (fun(p:Nat×List (List Int))=>[(9,.int .i64 p.1),(7,.box [.int .i64 c.ob,.o (ints c.fr),.o (ints c.to),.o (ints c.an),.o (aC c.co),.o (ints sz),.o (aC p.2)])])
  (fun p=>p.1<=c.fr.length/\p.2.length=p.1/\∀a,a<p.1->(p.2.getD a []).length=(L.getD (c.fr.getD a 0).toNat []).length/\∀i,i<(p.2.getD a []).length->0<=(p.2.getD a []).getD i 0/\(p.2.getD a []).getD i 0<(L.getD (c.to.getD a 0).toNat []).length) (fun p=>c.fr.length-p.1) (0,[]) (by simp only[go_sem];rfl) ⟨Nat.zero_le _,rfl,fun y hy=>absurd hy (Nat.not_lt_zero _)⟩ rfl ?_
 rintro⟨a,act⟩ ⟨ha,ad,ab⟩;simp only at ha ad ab;simp only[go_sem];have a6:=I.an;refine⟨fun V=>?_,fun V=>?_⟩
 ·have hF:=I.jO V
  have hT:=I.lz V;have aK:=fun e=>gb.step I hI V (e:=e)
  have cc:=aw V (show c.fr.length<=maxLen by simp only[maxLen];omega);obtain⟨x,hx⟩:∃x:Nat,c.fr.getD a 0=x:=⟨(c.fr.getD a 0).toNat,by omega⟩;obtain⟨t,ht⟩:∃t:Nat,c.to.getD a 0=t:=⟨(c.to.getD a 0).toNat,by omega⟩;refine⟨V,⟨hF.1,by omega⟩,by omega,⟨hT.1,by omega⟩,?_⟩;rw[hx,ht] at aK|-
  simp only[Int.toNat_natCast] at aK|-
  have cj:=ao x;have cg:=ao t;refine au [] (fun(p:Nat×List Int)=>[(13,.int .i64 p.1),(10,.o (ints p.2))]) (fun p=>p.1<=(L.getD x []).length/\p.2.length=p.1/\∀i,i<p.1->0<=p.2.getD i 0/\p.2.getD i 0<(L.getD t []).length) (fun p=>(L.getD x []).length-p.1) (0,[]) (by simp only[go_sem];rfl) ⟨Nat.zero_le _,rfl,fun y hy=>absurd hy (Nat.not_lt_zero _)⟩ rfl ?_;rintro⟨e,row⟩ ⟨he,a7,ag⟩;simp only at he a7 ag;simp only[go_sem];refine⟨fun h3=>?_,fun h3=>?_⟩
  ·obtain⟨i,j,b1,hj,b5,b9⟩:=aK e h3
   rw[b1];simp only[List.getD_cons_zero,List.getD_cons_succ,List.length_cons,List.length_nil];have hr:=I.row j hj;have cd:=aw h3 (show(L.getD x []).length<=maxLen by simp only[maxLen];omega);refine⟨h3,by omega,h3,by omega,aj (xb c j a (by omega) (by omega) (by omega) (by rw[Int.toNat_natCast,hr];omega)) rfl (.inl rfl) ?_⟩;simp only[go_sem];refine aj (Y2 (L.getD t []) [(i:Int),c.bH j a] (by omega) (fun q hq=>?_)) rfl (.inl rfl) ?_
   ·obtain⟨_,_,h5,_⟩:=hI.el t _ (show(L.getD t []).getD q []∈L.getD t [] by rw[aM hq];exact List.getElem_mem _)
    rw[h5];simp
   simp only[go_sem];refine⟨by omega,(e+1,row++[qj (L.getD t []) [(i:Int),c.bH j a]]),⟨h3,by rw[List.length_append,a7];rfl,fun q hq=>?_⟩,by simp only;omega,by rw[cd]⟩;rw[ee (by simp only at hq;omega)];split
   ·exact⟨b5,b9⟩
   ·exact ag q (by simp only at hq;omega)
  ·have cp:e=(L.getD x []).length:=by omega
   refine⟨by omega,(a+1,act++[row]),⟨V,by rw[List.length_append,ad];rfl,fun a' ax=>?_⟩,by simp only;omega,by rw[cc]⟩;rw[ee (by simp only at ax;omega)];split
   ·rename_i e'
    rw[e',ad,hx,ht];exact⟨by rw[Int.toNat_natCast];omega,fun i hi=>by rw[Int.toNat_natCast];exact ag i (by omega)⟩
   ·exact ab a' (by simp only at ax;omega)
 ·refine⟨_,_,⟨rfl,⟨c,sz,act⟩,rfl,⟨rfl,by show(sz.length:Int)=_;omega,fun x hx=>?_,by show act.length=_;omega,fun b hb=>?_,fun b i hb hi=>?_⟩⟩,rfl,rfl,trivial⟩
  ·have hx:x<sz.length:=hx
   show 0<=sz.getD x 0/\sz.getD x 0<=120;rw[Y x (by omega)];have:=ao x;omega
  ·have hF:=I.jO hb
   show((act.getD b []).length:Int)=sz.getD _ 0;rw[(ab b (by omega)).1,Y _ (by omega)]
  ·have hT:=I.lz hb
   show 0<=(act.getD b []).getD i 0/\(act.getD b []).getD i 0<sz.getD _ 0;rw[Y _ (by omega)];exact(ab b (by omega)).2 i hi
def DN:List Nat:=[0,1,4,2,5,6,7,8,9]
def LV:Sl:=ah Tryz.types Tryz.f163 DN []
theorem Vt:aE Tryz.prog Tryz.f163 DN LV 2=true:=by decide +kernel
theorem Y3(c:af)(I:c.Shape)(n:Nat)(hn:n<=2):bn Tryz.prog 163 [c.d,.int .i64 n] [] (xP 2 c):=by
 have h8:=I.ox;have h0:=I.cZ;have ad:=I.fr;have ag:=I.to;have ab:=I.an;refine dB .tree Tryz.func163 Vt ?_;unfold LV ah DN;simp only[go_sem];refine aj (uA c I.cost) rfl (.inl (dA _)) ?_;simp only[go_sem];refine au [] (fun(x:Nat)=>[(5,.int .i64 x),(4,.box [.int .i64 c.ob,.o (ints c.fr),.o (ints c.to),.o (ints c.an),.o (aC c.co),.o (ints (List.replicate x (n:Int))),.o (aC [])])]) (fun x=>(x:Int)<=c.ob) (fun x=>c.ob.toNat-x) 0 (by simp only[go_sem];rfl) h0 rfl ?_;intro x V;simp only[go_sem];refine⟨fun h1=>⟨by simp only[List.length_replicate];omega,x+1,by omega,by omega,by rw[aw (n:=9) (by omega) (by decide),List.replicate_succ']⟩,fun h1=>?_⟩;obtain rfl:x=c.ob.toNat:=by omega
 refine au [7,8] (fun(a:Nat)=>[(6,.int .i64 a),(4,.box [.int .i64 c.ob,.o (ints c.fr),.o (ints c.to),.o (ints c.an),.o (aC c.co),.o (ints (List.replicate c.ob.toNat (n:Int))),.o (aC (List.replicate a (bk n)))])]) (fun a=>a<=c.fr.length) (fun a=>c.fr.length-a) 0 (by simp only[go_sem];rfl) (Nat.zero_le _) rfl ?_;intro a ha;simp only[go_sem];have S:∀{x},x<c.ob.toNat->(List.replicate c.ob.toNat (n:Int)).getD x 0=n:=fun V=>by rw[List.getD_eq_getElem?_getD,List.getElem?_replicate,if_pos V];rfl
 refine⟨fun Z=>?_,fun Z=>?_⟩
 ·refine au [] (fun(e:Nat)=>[(8,.int .i64 e),(7,.o (ints (bk e)))]) (fun e=>e<=n) (fun e=>n-e) 0 (by simp only[go_sem];rfl) (Nat.zero_le _) rfl ?_
  intro e he;simp only[go_sem];refine⟨fun h3=>⟨by rw[dq];omega,e+1,by omega,by omega,by rw[aw (n:=9) (by omega) (by decide),H2]⟩,fun h3=>⟨by simp only[List.length_replicate];omega,a+1,by omega,by omega,?_⟩⟩;rw[aw Z (by simp only[maxLen];omega),List.replicate_succ',show e=n by omega]
 ·obtain rfl:a=c.fr.length:=by omega
  have Y:∀{b},b<c.fr.length->(List.replicate c.fr.length (bk n)).getD b []=bk n:=fun V=>by rw[List.getD_eq_getElem?_getD,List.getElem?_replicate,if_pos V];rfl
  refine⟨_,_,⟨rfl,⟨c,List.replicate c.ob.toNat (n:Int),List.replicate c.fr.length (bk n)⟩,rfl,⟨rfl,by simp only[List.length_replicate];omega,fun x V=>?_,by simp only[List.length_replicate],fun b W=>?_,fun b i W hi=>?_⟩⟩,rfl,rfl,trivial⟩
  ·simp only[List.length_replicate] at V
   simp only[S V];omega
  ·have hF:=I.jO W
   simp only[Y W,dq];rw[S (by omega)]
  ·have hT:=I.lz W
   simp only[Y W] at hi|-
   rw[dq] at hi;rw[S (by omega)];unfold bk;rw[List.getD_eq_getElem?_getD,List.getElem?_map,List.getElem?_range hi];exact⟨by show(0:Int)<=(i:Int);omega,by show(i:Int)<n;omega⟩
end Go.D3
