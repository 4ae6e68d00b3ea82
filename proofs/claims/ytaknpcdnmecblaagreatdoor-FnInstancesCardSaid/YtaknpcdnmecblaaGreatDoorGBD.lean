/- PLAIN LAWS: marks that are set one by one (for spec.l36Ways). -/
import Derived.Test.YtaknpcdnmecblaaGreatDoorGAX
import Derived.Test.YtaknpcdnmecblaaGreatDoorGAA
namespace Go.D3
open Go Proofs
set_option maxHeartbeats 4000000
set_option maxRecDepth 100000
def j6(rel:Nat->Nat->Bool)(N i:Nat):Nat->List (Nat×Nat)
 | 0=>aT rel N i
 | j+1=>if rel i j=true then j6 rel N i j++[(i,j)] else j6 rel N i j
theorem AD{rel:Nat->Nat->Bool}{N i:Nat}:∀{j:Nat},j6 rel N i j=aT rel N i++(fv rel i j).map fun j=>(i,j)
 | 0=>by simp[j6,fv]
 | j+1=>by
  rw[j6,AD,JQ];by_cases h:rel i j=true
  ·rw[if_pos h,if_pos h,List.map_append,List.append_assoc];rfl
  ·rw[if_neg h,if_neg h,List.append_nil]
theorem Iy{rel:Nat->Nat->Bool}{N i j:Nat}:(j6 rel N i j).length=dZ rel N i j:=by rw[AD,List.length_append,List.length_map];rfl
theorem WS{rel:Nat->Nat->Bool}{N i j:Nat}:dZ rel N i j<=i*N+j:=by
 have:=wQ (rel:=rel) (N:=N) (n:=i)
 have I:(fv rel i j).length<=j:=by
  unfold fv;exact Nat.le_trans (List.length_filter_le _ _) (by rw[List.length_range];exact Nat.le_refl _)
 unfold dZ;omega
def kX(L:List (Nat×Nat)):List Int:=L.map fun p=>(p.1:Int)
def kY(L:List (Nat×Nat)):List Int:=L.map fun p=>(p.2:Int)
def j7(rel:Nat->Nat->Bool)(N i:Nat):List Int:=(List.range N).map fun j=>(dZ rel N i j:Int)
def um(rel:Nat->Nat->Bool)(n f g:Nat):Int:=if((aT rel n n).getD f (0,0)).2=((aT rel n n).getD g (0,0)).1 then(dZ rel n ((aT rel n n).getD f (0,0)).1 ((aT rel n n).getD g (0,0)).2:Int) else -1
def IC(rel:Nat->Nat->Bool)(n f:Nat):List Int:=(List.range (aT rel n n).length).map (um rel n f)
theorem WN{L:List (Nat×Nat)}{i j:Nat}:kX L++[(i:Int)]=kX (L++[(i,j)]):=by simp[kX]
theorem WO{L:List (Nat×Nat)}{i j:Nat}:kY L++[(j:Int)]=kY (L++[(i,j)]):=by simp[kY]
def DH:List Nat:=[0,2,3,4,5,6,7,8,9,10,11,12,13]
def LO:Sl:=ah Tryz.types Tryz.f155 DH []
theorem Vn:aE Tryz.prog Tryz.f155 DH LO 1=true:=by decide +kernel
theorem su(n:Nat)(R:List (List Int))(hR:gi n R)(hn:n<=100):aA Tryz.prog 155 [.v (aC R)] (gz (aL R) n).d:=by
 have hl:=hR.len;refine aQ Tryz.func155 Vn ?_;unfold LO ah DH;simp only[go_sem];rw[hl];refine au [6,7] (fun i:Nat=>[(5,.int .i64 i),(3,.o (aC ((List.range i).map (j7 (aL R) n)))),(4,gj n (kX (aT (aL R) n i)) (kY (aT (aL R) n i)) [] [])]) (fun i=>i<=n) (fun i=>n-i) 0 (by simp only[go_sem];rfl) (Nat.zero_le _) rfl ?_;intro i hi;have li:((List.range i).map (j7 (aL R) n)).length=i:=by simp
 simp only[go_sem];refine⟨fun h=>?_,fun h=>?_⟩
 ·have a1:i*n<=100*100:=Nat.mul_le_mul (by omega) hn
  refine au [] (fun j:Nat=>[(7,.int .i64 j),(6,.o (ints ((List.range j).map fun j=>(dZ (aL R) n i j:Int)))),(4,gj n (kX (j6 (aL R) n i j)) (kY (j6 (aL R) n i j)) [] [])]) (fun j=>j<=n) (fun j=>n-j) 0 (by simp only[go_sem];rfl) (Nat.zero_le _) rfl ?_;intro j hj;have lj:((List.range j).map fun j=>(dZ (aL R) n i j:Int)).length=j:=by simp
  have lF:(kX (j6 (aL R) n i j)).length=dZ (aL R) n i j:=by rw[kX,List.length_map,Iy]
  have lT:(kY (j6 (aL R) n i j)).length=dZ (aL R) n i j:=by rw[kY,List.length_map,Iy]
  have hp:=@WS (aL R) n i j;simp only[go_sem];refine⟨fun h2=>?_,fun h2=>?_⟩
  ·have hr:=hR.row i (by omega)
   have hw:=aw h2 (show n<=maxLen by simp only[maxLen];omega);have W:(List.range (j+1)).map (fun j=>(dZ (aL R) n i j:Int))=(List.range j).map (fun j=>(dZ (aL R) n i j:Int))++[(dZ (aL R) n i j:Int)]:=gw;refine⟨by omega,by omega,by omega,fun h3=>⟨by omega,by omega,j+1,by omega,by omega,?_⟩,fun h3=>⟨j+1,by omega,by omega,?_⟩⟩
   ·have S:aL R i j=true:=by unfold aL;rw[h3];rfl
    rw[hw,W,lF,j6,if_pos S,<-WN,<-WO]
   ·have S:¬aL R i j=true:=by unfold aL;rw[h3];exact Bool.noConfusion
    rw[hw,W,lF,j6,if_neg S]
  ·obtain rfl:j=n:=by omega
   refine⟨by omega,i+1,by omega,by omega,?_⟩;rw[aw (show i<j by omega) (by simp only[maxLen];omega),gw,aT,<-AD];rfl
 obtain rfl:i=n:=by omega
 have ao:=@wQ (aL R) i i;have ax:i*i<=100*100:=Nat.mul_le_mul hn hn;have lF:(kX (aT (aL R) i i)).length=(aT (aL R) i i).length:=List.length_map _;have lT:(kY (aT (aL R) i i)).length=(aT (aL R) i i).length:=List.length_map _;refine au [] (fun k:Nat=>[(8,.int .i64 k),(4,gj i (kX (aT (aL R) i i)) (kY (aT (aL R) i i)) ((List.range k).map fun k=>(dZ (aL R) i k k:Int)) [])]) (fun k=>k<=i) (fun k=>i-k) 0 (by simp only[go_sem];rfl) (Nat.zero_le _) rfl ?_;intro k hk;have lk:((List.range k).map fun k=>(dZ (aL R) i k k:Int)).length=k:=by simp
 simp only[go_sem];refine⟨fun h2=>?_,fun h2=>?_⟩
 ·have Z:((List.range i).map (j7 (aL R) i)).getD k []=j7 (aL R) i k:=dT (by omega)
  have ab:(j7 (aL R) i k).length=i:=by simp[j7]
  rw[Z,ab];refine⟨by omega,by omega,by omega,k+1,by omega,by omega,?_⟩;rw[aw (show k<i by omega) (by simp only[maxLen];omega),gw,j7,dT (show k<i by omega)]
 obtain rfl:k=i:=by omega
 generalize hI:(List.range k).map (fun k'=>(dZ (aL R) k k' k':Int))=I;have gF:∀{f},f<(aT (aL R) k k).length->(kX (aT (aL R) k k)).getD f 0=(((aT (aL R) k k).getD f (0,0)).1:Int):=fun h=>kF (0,0) h
 have gT:∀{f},f<(aT (aL R) k k).length->(kY (aT (aL R) k k)).getD f 0=(((aT (aL R) k k).getD f (0,0)).2:Int):=fun h=>kF (0,0) h
 have ag:∀{f},f<(aT (aL R) k k).length->((aT (aL R) k k).getD f (0,0)).1<k/\((aT (aL R) k k).getD f (0,0)).2<k:=fun {f} h=>by
  have:=AH (rel:=aL R) (N:=k) (n:=k) (p:=(aT (aL R) k k).getD f (0,0)) (by rw[aM h];exact List.getElem_mem _);exact⟨this.1,this.2.1⟩
 refine au [10,11,12] (fun f:Nat=>[(9,.int .i64 f),(4,gj k (kX (aT (aL R) k k)) (kY (aT (aL R) k k)) I ((List.range f).map (IC (aL R) k)))]) (fun f=>f<=(aT (aL R) k k).length) (fun f=>(aT (aL R) k k).length-f) 0 (by simp only[go_sem];rfl) (Nat.zero_le _) rfl ?_;intro f hf;have lf:((List.range f).map (IC (aL R) k)).length=f:=by simp
 simp only[go_sem];refine⟨fun h3=>?_,fun h3=>?_⟩
 ·refine au [12] (fun g:Nat=>[(11,.int .i64 g),(10,.o (ints ((List.range g).map (um (aL R) k f))))]) (fun g=>g<=(aT (aL R) k k).length) (fun g=>(aT (aL R) k k).length-g) 0 (by simp only[go_sem];rfl) (Nat.zero_le _) rfl ?_
  intro g hg;have lg:((List.range g).map (um (aL R) k f)).length=g:=by simp
  simp only[go_sem];refine⟨fun h4=>?_,fun h4=>?_⟩
  ·have Y:f<(aT (aL R) k k).length:=by omega
   have V:g<(aT (aL R) k k).length:=by omega
   have ad:=aw V (show(aT (aL R) k k).length<=maxLen by simp only[maxLen];omega);have i1:=ag Y;have i2:=ag V;rw[gF Y,gF V,gT Y,gT V];simp only[Int.toNat_natCast];have Z:((List.range k).map (j7 (aL R) k)).getD ((aT (aL R) k k).getD f (0,0)).1 []=j7 (aL R) k ((aT (aL R) k k).getD f (0,0)).1:=dT i1.1;have ab:(j7 (aL R) k ((aT (aL R) k k).getD f (0,0)).1).length=k:=by simp[j7]
   rw[Z,ab];have eP:(j7 (aL R) k ((aT (aL R) k k).getD f (0,0)).1).getD ((aT (aL R) k k).getD g (0,0)).2 0=(dZ (aL R) k ((aT (aL R) k k).getD f (0,0)).1 ((aT (aL R) k k).getD g (0,0)).2:Int):=dT i2.2;refine⟨by omega,by omega,fun h5=>⟨by omega,by omega,by omega,by omega,by omega,g+1,by omega,by omega,?_⟩,fun h5=>⟨by omega,g+1,by omega,by omega,?_⟩⟩
   ·rw[ad,gw,eP,um,if_pos (by omega)]
   ·have h5:¬((aT (aL R) k k).getD f (0,0)).2=((aT (aL R) k k).getD g (0,0)).1:=fun e=>by rw[e] at h5;simp at h5
    rw[ad,gw,um,if_neg h5]
  ·obtain rfl:g=(aT (aL R) k k).length:=by omega
   refine⟨by omega,f+1,by omega,by omega,?_⟩;rw[aw (show f<(aT (aL R) k k).length by omega) (by simp only[maxLen];omega),gw];rfl
 ·obtain rfl:f=(aT (aL R) k k).length:=by omega
  rw[<-hI];rfl
end Go.D3
namespace Go.D3
open Go
structure Lp where
 fr:Int
 to:Int
 ed:List Int
deriving DecidableEq
def Lp.zero:Lp:=⟨0,0,[]⟩
def gP(F T:List Int)(p:Lp)(e:Nat):List Lp:=((List.range e).filter fun i=>F.getD i 0 == p.to).map fun i=>⟨p.fr,T.getD i 0,p.ed++[(i:Int)]⟩
theorem Ga{F T:List Int}{p:Lp}{e:Nat}:gP F T p (e+1)=gP F T p e++if F.getD e 0=p.to then[⟨p.fr,T.getD e 0,p.ed++[(e:Int)]⟩] else[]:=by
 unfold gP;rw[List.range_succ,List.filter_append,List.map_append];by_cases h:F.getD e 0=p.to
 ·rw[if_pos h,List.filter_cons_of_pos (by simpa using h)];rfl
 ·rw[if_neg h,List.filter_cons_of_neg (by simpa using h)];rfl
theorem F9{F T:List Int}{p:Lp}{e:Nat}:(gP F T p e).length<=e:=by
 unfold gP;rw[List.length_map];exact Nat.le_trans (List.length_filter_le _ _) (by rw[List.length_range];exact Nat.le_refl _)
def lH(F T:List Int):Nat->List Lp->Nat->List Lp
 | 0,L,_=>L
 | m+1,L,k=>if k<L.length/\L.length<=40 then lH F T m (L++gP F T (L.getD k Lp.zero) F.length) (k+1) else L
def kI(n:Nat):List Lp:=(List.range n).map fun x:Nat=>⟨x,x,[]⟩
def wa:List Int->List Int->Bool
 | _,[]=>false
 | [],_::_=>true
 | a::l,b::m=>if a=b then wa l m else decide (a<b)
def nP(a b:Lp):Bool:=if a.fr≠b.fr then decide (a.fr<b.fr) else if a.to≠b.to then decide (a.to<b.to) else wa a.ed b.ed
def lp(L:List Lp):Nat->List Lp
 | 0=>L
 | k+1=>if nP (L.getD (k+1) Lp.zero) (L.getD k Lp.zero)=true then lp ((L.set (k+1) (L.getD k Lp.zero)).set k (L.getD (k+1) Lp.zero)) k else L
def nA(L:List Lp):Nat->List Lp
 | 0=>L
 | 1=>L
 | i+2=>lp (nA L (i+1)) (i+1)
def oI(n:Nat)(F T:List Int):List Lp:=let L:=lH F T 41 (kI n) 0;nA L L.length
def tn(L:List Lp)(x:Int)(l:List Int):Nat->Int
 | 0=>-1
 | k+1=>if(L.getD k Lp.zero).fr=x/\(L.getD k Lp.zero).ed=l then k else tn L x l k
def rb(L:List Lp)(i j:Nat):Int:=if(L.getD i Lp.zero).to=(L.getD j Lp.zero).fr then tn L (L.getD i Lp.zero).fr ((L.getD i Lp.zero).ed++(L.getD j Lp.zero).ed) L.length else -1
def mP(L:List Lp):Nat->List Int->List Int
 | 0,I=>I
 | k+1,I=>let J:=mP L k I;if(L.getD k Lp.zero).ed=[] then J.set (L.getD k Lp.zero).fr.toNat (k:Int) else J
def nu(n:Nat)(F T:List Int):af :=
 let L:=oI n F T
 ⟨n,L.map Lp.fr,L.map Lp.to,mP L L.length (List.replicate n 0),if n<=8/\L.length<=40 then(List.range L.length).map fun i=>(List.range L.length).map fun j=>rb L i j else[]⟩
def yJ(n:Nat):List (Int×Int):=if n=2 then[(0,1)] else[(0,1),(0,2),(1,2)]
def jR(n:Nat):Nat->List (List Int×List Int)
 | 0=>[([],[])]
 | k+1=>(jR n k).flatMap fun g=>(yJ n).map fun e=>(g.1++[e.1],g.2++[e.2])
theorem Qz:∀n,n<2->∀k,k<4->∀g∈jR (n+2) k,(nu (n+2) g.1 g.2).dN=true:=by decide +kernel
theorem GC:(nu 2 [0,0] [1,1]).dN=true/\(nu 3 [0,1,0] [1,2,2]).dN=true:=by decide +kernel
end Go.D3
namespace Go.D3
open Go
structure gJ(c:af):Prop where
 wf:c.Wf
 ob:c.ob<=4
 ar:c.fr.length<=16
theorem Gd{rel:Nat->Nat->Bool}{n:Nat}(S:∀i,i<n->rel i i=true)(V:∀i j k,i<n->j<n->k<n->rel i j=true->rel j k=true->rel i k=true)(I:n<=4):gJ (gz rel n):=by
 refine⟨WQ S V,by show(n:Int)<=4;omega,?_⟩;have h:=wQ (rel:=rel) (N:=n) (n:=n);have W:n*n<=4*4:=Nat.mul_le_mul I I;show((aT rel n n).map _).length<=16;rw[List.length_map];omega
theorem yY(i:Nat)(h:i<8):gJ (om (iU i))/\(om (iU i)).ob=1/\(om (iU i)).fr.length<=4:=by
 have S:(iU i).length<=4:=by
  match i,h with
  | 0,_=>decide
  | 1,_=>decide
  | 2,_=>decide
  | 3,_=>decide
  | 4,_=>decide
  | 5,_=>decide
  | 6,_=>decide
  | 7,_=>decide
 have I:(om (iU i)).fr.length<=4:=by show(List.replicate _ (0:Int)).length<=4;rw[List.length_replicate];exact S
 exact⟨⟨SD i h,by show(1:Int)<=4;decide,by omega⟩,rfl,I⟩
theorem P7:gJ xm:=⟨aaz,by decide,by decide⟩
def jX:af:=gz (fun _ _=>true) 1
theorem vC:gJ jX:=Gd (fun _ _=>rfl) (fun _ _ _ _ _ _ _ _=>rfl) (by decide)
theorem VT:jX.fr.length=1/\jX.ob=1:=⟨rfl,rfl⟩
theorem Gc{c:af}(h:gJ c)(h1:c.ob=1)(V:c.fr.length<=4):gJ (tz c jX):=by
 obtain⟨I,S⟩:=VT;refine⟨GZ h.wf vC.wf,?_,?_⟩
 ·show c.ob+jX.ob<=4
  omega
 ·show(bt c jX).length<=16
  unfold bt;rw[List.length_append,List.length_map,List.length_range,h1,S];have:(aS c jX).fr.length=c.fr.length+jX.fr.length:=by simp[aS]
  rw[this,I];show c.fr.length+1+(1:Int).toNat*(1:Int).toNat<=16;have:(1:Int).toNat=1:=rfl;rw[this];omega
theorem P3{c:af}(h:gJ c):gJ (tZ c):=⟨Wi h.wf,h.ob,by show c.to.length<=16;rw[h.wf.bQ];exact h.ar⟩
theorem Qx:∀n,n<2->∀k,k<4->∀g∈jR (n+2) k,(nu (n+2) g.1 g.2).fr.length<=8:=by decide +kernel
theorem P5{n k:Nat}(I:n<2)(hk:k<4){g:List Int×List Int}(hg:g∈jR (n+2) k):gJ (nu (n+2) g.1 g.2):=by
 have h1:=af.dO.1 (Qz n I k hk g hg);have S:=Qx n I k hk g hg;exact⟨.of h1,by show((n+2:Nat):Int)<=4;omega,by omega⟩
theorem P4:gJ (nu 2 [0,0] [1,1]):=⟨.of (af.dO.1 GC.1),by decide,by decide +kernel⟩
theorem P8:gJ (nu 3 [0,1,0] [1,2,2]):=⟨.of (af.dO.1 GC.2),by decide,by decide +kernel⟩
theorem aaL{c d:af}:(aS c d).ob=c.ob+d.ob/\(aS c d).fr.length=c.fr.length+d.fr.length:=⟨rfl,by simp[aS]⟩
def MO(n:Nat)(R:List (List Int)):Bool:=decide (R.length=n)&&cS n fun i=>decide ((R.getD i []).length=n)&&aL R i i
def M7(n:Nat)(R:List (List Int)):Bool:=cS n fun i=>cS n fun k=>cS n fun j=>!(aL R i k&&aL R k j) || aL R i j
theorem uK{n:Nat}{R:List (List Int)}(h:MO n R=true):gi n R:=by
 simp only[MO,Bool.and_eq_true,decide_eq_true_eq,jG] at h;exact⟨h.1,fun i hi=>(h.2 i hi).1,fun i hi=>(h.2 i hi).2⟩
theorem M8{n:Nat}{R:List (List Int)}(h:M7 n R=true):Tr n n R:=fun i k j hi hk V h1 S=>by
 simp only[M7,jG,Bool.or_eq_true,Bool.not_eq_true',Bool.and_eq_false_iff] at h;rcases h i hi k hk j V with(I | I) | I
 ·rw[h1] at I;cases I
 ·rw[S] at I;cases I
 ·exact I
theorem tj{n:Nat}{R:List (List Int)}(h:gi n R)(W:Tr n n R)(V:n<=4):gJ (gz (aL R) n) :=
 Gd h.one (fun i j k hi S hk h1 I=>W i j k hi S hk h1 I) V
theorem P9:gJ (gz (aL [[1,1],[0,1]]) 2):=tj (uK (by decide)) (M8 (by decide)) (by decide)
theorem P6:gJ (gz (aL [[1,1,1],[0,1,0],[0,0,1]]) 3):=tj (uK (by decide)) (M8 (by decide)) (by decide)
theorem P0{n:Nat}(W:n<=3):gJ (gz (aL (List.replicate n (List.replicate n 1))) n):=by
 have I:∀{i j},i<n->j<n->aL (List.replicate n (List.replicate n 1)) i j=true:=fun {i j} h1 S=>by
  unfold aL;rw[mN h1,mN S];rfl
 exact tj ⟨List.length_replicate,fun i hi=>by rw[mN hi,List.length_replicate],fun i hi=>I hi hi⟩ (fun i k j hi hk V _ _=>I hi V) (by omega)
theorem PN{n:Nat}(I:n=2\/n=3){x y:Int}(S : 0<=x)(h1:x<(n:Int)-1)(V : 0<=y)(W:y<(n:Int)-1-x):(x,x+1+y)∈yJ n:=by
 rcases I with rfl | rfl
 ·obtain rfl:x=0:=by omega
  obtain rfl:y=0:=by omega
  decide
 ·have:(x=0/\y=0)\/(x=0/\y=1)\/(x=1/\y=0):=by omega
  rcases this with⟨rfl,rfl⟩ | ⟨rfl,rfl⟩ | ⟨rfl,rfl⟩<;>decide
theorem QA{n k:Nat}{g:List Int×List Int}(hg:g∈jR n k){e:Int×Int}(he:e∈yJ n):(g.1++[e.1],g.2++[e.2])∈jR n (k+1):=by
 rw[jR,List.mem_flatMap];exact⟨g,hg,List.mem_map.2 ⟨e,he,rfl⟩⟩
theorem Qy{n:Nat}:([],[])∈jR n 0:=List.mem_singleton.2 rfl
end Go.D3
namespace Go.D3
open Go
def nU(l:List Bool):Nat:=(l.filter fun b=>!b).length
theorem Px{n:Nat}:nU (List.replicate n false)=n:=by
 unfold nU;induction n with
 | zero=>rfl
 | succ n I=>rw[List.replicate_succ,List.filter_cons_of_pos rfl,List.length_cons,I]
theorem yt:∀{l:List Bool}{h:Nat},h<l.length->l.getD h false=false->nU (l.set h true)+1=nU l
 | b::l,0,_,I=>by
  have V:b=false:=I;subst V;show((true::l).filter fun b=>!b).length+1=((false::l).filter fun b=>!b).length;rw[List.filter_cons_of_neg (by decide),List.filter_cons_of_pos (by decide),List.length_cons]
 | b::l,h+1,W,I=>by
  have S:=yt (l:=l) (h:=h) (Nat.lt_of_succ_lt_succ W) I;unfold nU at S|-
  show((b::l.set h true).filter fun b=>!b).length+1=((b::l).filter fun b=>!b).length;cases b with
  | true=>rw[List.filter_cons_of_neg (by decide),List.filter_cons_of_neg (by decide)];exact S
  | false=>rw[List.filter_cons_of_pos (by decide),List.filter_cons_of_pos (by decide),List.length_cons,List.length_cons];omega
theorem Py{l:List Bool}{h:Nat}:nU (l.set h true)<=nU l:=by
 by_cases hl:h<l.length
 ·cases hf:l.getD h false with
  | false=>have:=yt hl hf;omega
  | true =>
   rw[show l.set h true=l from ?_]
   ·exact Nat.le_refl _
   ·refine List.ext_getElem (by rw[List.length_set]) fun i h1 I=>?_
    rw[List.getElem_set];by_cases e:h=i
    ·subst e;rw[if_pos rfl];rw[aM hl] at hf;exact hf.symm
    ·rw[if_neg e]
 ·rw[List.set_eq_of_length_le (by omega)];exact Nat.le_refl _
structure je(N m:Nat)(ord:List Int)(out:List U)(kn:List Bool):Prop where
 o:out.length=N
 k:kn.length=N
 r:∀i,i<ord.length->0<=ord.getD i 0/\ord.getD i 0<N
 c:ord.length+nU kn<=m+N
 p:∀i,i<N->(out.getD i U.zero).ed.length<=ord.length
theorem je.len{N m:Nat}{ord:List Int}{out:List U}{I:List Bool}(h:je N m ord out I):ord.length<=m+N:=by have:=h.c;omega
theorem je.zero{N:Nat}:je N 0 [] (List.replicate N U.zero) (List.replicate N false):=by
 refine⟨List.length_replicate,List.length_replicate,fun i hi=>absurd hi (Nat.not_lt_zero _),by rw[Px];simp,fun i hi=>?_⟩;rw[mN hi];exact Nat.le_refl _
theorem IM{out:List U}{h i:Nat}{q:U}(I:h<out.length):(out.set h q).getD i U.zero=if i=h then q else out.getD i U.zero:=by
 rw[List.getD_eq_getElem?_getD,List.getElem?_set];by_cases e:h=i
 ·subst e;rw[if_pos rfl,if_pos rfl,if_pos I];rfl
 ·rw[if_neg e,if_neg (Ne.symm e),<-List.getD_eq_getElem?_getD]
theorem je.start{N m:Nat}{ord:List Int}{out:List U}{I:List Bool}(h:je N m ord out I){a:Nat}(Y:a<N)(x:Int):je N (m+1) (ord++[(a:Int)]) (out.set a ⟨x,[]⟩) (I.set a true):=by
 have h1:=h.o;have S:=h.k;have V:=h.c;have W:=Py (l:=I) (h:=a);refine⟨by rw[List.length_set];exact h1,by rw[List.length_set];exact S,fun i hi=>?_,by rw[List.length_append];show _+1+_<=_;omega,fun i hi=>?_⟩
 ·rw[List.length_append] at hi
  have hi:i<ord.length+1:=hi;by_cases e:i<ord.length
  ·rw[fF e];exact h.r i e
  ·rw[fS (by omega),show i-ord.length=0 by omega]
   show 0<=(a:Int)/\(a:Int)<N;omega
 ·rw[IM (by omega),List.length_append]
  by_cases e:i=a
  ·rw[if_pos e];exact Nat.zero_le _
  ·rw[if_neg e];have:=h.p i hi;omega
theorem je.next{N m:Nat}{ord:List Int}{out:List U}{I:List Bool}(h:je N m ord out I){a:Nat}(ha:a<N)(V:I.getD a false=false){q:U}(W:q.ed.length<=ord.length+1):je N m (ord++[(a:Int)]) (out.set a q) (I.set a true):=by
 have h1:=h.o;have S:=h.k;have Y:=h.c;have Z:=yt (l:=I) (h:=a) (by omega) V;refine⟨by rw[List.length_set];exact h1,by rw[List.length_set];exact S,fun i hi=>?_,by rw[List.length_append];show _+1+_<=_;omega,fun i hi=>?_⟩
 ·rw[List.length_append] at hi
  have hi:i<ord.length+1:=hi;by_cases e:i<ord.length
  ·rw[fF e];exact h.r i e
  ·rw[fS (by omega),show i-ord.length=0 by omega]
   show 0<=(a:Int)/\(a:Int)<N;omega
 ·rw[IM (by omega),List.length_append]
  by_cases e:i=a
  ·rw[if_pos e];exact W
  ·rw[if_neg e];have:=h.p i hi;omega
end Go.D3
