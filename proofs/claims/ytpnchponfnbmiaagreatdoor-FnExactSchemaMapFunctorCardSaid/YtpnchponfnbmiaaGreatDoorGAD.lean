/- PLAIN LAWS: the category of a schema as one thing. -/
import Derived.Test.YtpnchponfnbmiaaGreatDoorGAC
import Derived.Test.YtpnchponfnbmiaaGreatDoorGAB
namespace Go.D3
open Go
def gU(i:Nat):List Pth:=(List.range i).map fun x:Nat=>⟨x,[]⟩
theorem nx{i:Nat}:(gU i).length=i:=by simp[gU]
theorem Dr{i:Nat}:gU (i+1)=gU i++[⟨i,[]⟩]:=by unfold gU;rw[List.range_succ,List.map_append];rfl
theorem Ds{s:Sch}(hs:gi s):eM s (gU s.nd.toNat) 0:=by
 have h0:=hs.n0;refine⟨fun p hp=>?_,fun x hx=>?_,fun j hj=>by omega⟩
 ·obtain⟨x,hx,rfl⟩:=List.mem_map.1 hp
  rw[List.mem_range] at hx;exact⟨x,oK (by omega) (by omega)⟩
 ·exact List.mem_map.2 ⟨x,List.mem_range.2 (by omega),rfl⟩
theorem eM.fZ{s:Sch}{o:List Pth}{i:Nat}(h:eM s o i)(h6:¬(o.getD i Pth.zero).ed.length<6):eM s o (i+1):=by
 refine⟨h.v,h.z,fun j hj e he hl hE=>?_⟩;by_cases hji:j<i
 ·exact h.c j hji e he hl hE
 ·rw[show j=i by omega] at hl;exact absurd hl h6
theorem eM.add{s:Sch}{o:List Pth}{i:Nat}(h:eM s o i)(hi:i<=o.length){q:Pth}{y:Int}(hq:s.aF q=some y):eM s (o++[q]) i:=by
 refine⟨fun p hp=>?_,fun x hx=>List.mem_append_left _ (h.z x hx),fun j hj e he=>?_⟩
 ·rcases List.mem_append.1 hp with hp | hp
  ·exact h.v p hp
  ·rw[List.mem_singleton] at hp;subst hp;exact⟨y,hq⟩
 ·rw[fI (by omega),if_neg (by omega)]
  exact fun hl hE=>List.mem_append_left _ (h.c j hj e he hl hE)
theorem eM.next{s:Sch}{o:List Pth}{i:Nat}(h:eM s o i)(hc:∀e:Nat,e<s.fr.length->s.aF (o.getD i Pth.zero)=some (s.fr.getD e 0)->(⟨(o.getD i Pth.zero).st,(o.getD i Pth.zero).ed++[(e:Int)]⟩:Pth)∈o):eM s o (i+1):=by
 refine⟨h.v,h.z,fun j hj e he hl hE=>?_⟩;by_cases hji:j<i
 ·exact h.c j hji e he hl hE
 ·obtain rfl:j=i:=by omega
  exact hc e he hE
theorem eM.at'{s:Sch}{o:List Pth}{i j:Nat}(h:eM s o i)(hj:j<o.length):∃y,s.aF (o.getD j Pth.zero)=some y:=by
 rw[aX hj];exact h.v _ (List.getElem_mem _)
theorem dp.at'{s:Sch}{o:List Pth}{j:Nat}(h:dp s o)(hj:j<o.length):∃y,s.aF (o.getD j Pth.zero)=some y:=by
 rw[aX hj];exact h.v _ (List.getElem_mem _)
theorem dp.perm{s:Sch}{o l:List Pth}(h:dp s l)(hp:o.Perm l):dp s o:=⟨fun p q=>h.v p (hp.mem_iff.1 q),fun p y hy=>hp.mem_iff.2 (h.a p y hy)⟩
def mw(o:List Pth)(k:Nat):List Pth:=(o.set k (o.getD (k-1) Pth.zero)).set (k-1) (o.getD k Pth.zero)
theorem Tp{o:List Pth}{k:Nat}(hk:k<o.length):(mw o k).Perm o:=by
 unfold mw;rw[aX hk,aX (show k-1<o.length by omega)];exact List.set_set_perm hk (by omega)
def uv(n:Nat)(P:List (List Int)):Prop:=∀p∈P,∃a b:Nat,p=[(a:Int),(b:Int)]/\a<n/\b<n
theorem uv.get{n:Nat}{P:List (List Int)}(h:uv n P){k:Nat}(hk:k<P.length):∃a b:Nat,P.getD k []=[(a:Int),(b:Int)]/\a<n/\b<n:=by
 rw[aX hk];exact h _ (List.getElem_mem _)
def lp(s:Sch)(list:List Pth)(P:List (List Int)):Prop:=∀p∈P,∃a b:Nat,p=[(a:Int),(b:Int)]/\a<list.length/\b<list.length/\(list.getD a Pth.zero).st=(list.getD b Pth.zero).st/\s.aF (list.getD a Pth.zero)=s.aF (list.getD b Pth.zero)
theorem lp.pr{s:Sch}{list:List Pth}{P:List (List Int)}(h:lp s list P):uv list.length P:=fun p hp=>by
 obtain⟨a,b,h1,h2,h3,_⟩:=h p hp;exact⟨a,b,h1,h2,h3⟩
theorem lp.add{s:Sch}{list:List Pth}{P:List (List Int)}(h:lp s list P){a b:Nat}(ha:a<list.length)(hb:b<list.length)(h1:(list.getD a Pth.zero).st=(list.getD b Pth.zero).st)(h2:s.aF (list.getD a Pth.zero)=s.aF (list.getD b Pth.zero)) :
  lp s list (P++[[(a:Int),(b:Int)]]):=fun p hp=>by
 rcases List.mem_append.1 hp with hp | hp
 ·exact h p hp
 ·rw[List.mem_singleton] at hp;subst hp;exact⟨a,b,rfl,ha,hb,h1,h2⟩
theorem lp.cls{s:Sch}{list:List Pth}{P:List (List Int)}{cl:List Int}(h:lp s list P)(hj:lj (b7 (br list.length) P) cl):rC s list cl:=JG hj fun p hp=>by
 obtain⟨a,b,rfl,h1,h2,h3,h4⟩:=h p hp;exact⟨a,b,h1,h2,rfl,rfl,h3,h4⟩
theorem kf{s:Sch}{p:Pth}{y:Int}(h:s.aF p=some y){i:Nat}(hi:i<=p.ed.length):bp s.fr s.to p.st (p.ed.take i)=some (if i=0 then p.st else s.to.getD (p.ed.getD (i-1) 0).toNat 0):=by
 have h3:=(bw.1 h).2.2;rw[<-List.take_append_drop i p.ed,kn] at h3;cases hf:bp s.fr s.to p.st (p.ed.take i) with
 | none=>rw[hf] at h3;cases h3
 | some m =>
  have:=(oR hf).1;rw[this];by_cases hi0:i=0
  ·subst hi0;rfl
  ·have hne:¬p.ed.take i=[]:=fun e=>by
    have:=congrArg List.length e;rw[List.length_take,List.length_nil] at this;omega
   rw[if_neg hne,if_neg hi0];congr 3;rw[List.length_take,Nat.min_eq_left hi,List.getD_eq_getElem?_getD,List.getElem?_take,if_pos (by omega),List.getD_eq_getElem?_getD]
theorem rZ{s:Sch}{w p q:Pth}{y z m:Int}{i:Nat}(hw:s.aF w=some y)(hp:s.aF p=some z)(hq:s.aF q=some z)(aG:p.st=q.st)(hi:i+p.ed.length<=w.ed.length)
  (hm:bp s.fr s.to w.st (w.ed.take i)=some m) (hpm:m=p.st) (hs:(w.ed.take (i+p.ed.length)).drop i=p.ed) (hl:w.ed.length-p.ed.length+q.ed.length<=6) :
  s.aF ⟨w.st,w.ed.take i++q.ed++w.ed.drop (i+p.ed.length)⟩=some y:=by
 obtain⟨h1,h2,h3⟩:=bw.1 hw;refine bw.2 ⟨h1,?_,?_⟩
 ·show(w.ed.take i++q.ed++w.ed.drop _).length<=6
  simp only[List.length_append,List.length_take,List.length_drop];omega
 ·show bp s.fr s.to w.st (w.ed.take i++q.ed++w.ed.drop _)=_
  have e:w.ed=w.ed.take i++p.ed++w.ed.drop (i+p.ed.length):=by
   conv=>lhs;rw[<-List.take_append_drop (i+p.ed.length) w.ed,<-List.take_append_drop i (w.ed.take (i+p.ed.length)),hs,List.take_take,Nat.min_eq_left (by omega)]
  rw[e,List.append_assoc,kn,hm,Option.bind_some,kn,hpm,(bw.1 hp).2.2,Option.bind_some] at h3;rw[List.append_assoc,kn,hm,Option.bind_some,kn,hpm,aG,(bw.1 hq).2.2,Option.bind_some,h3]
end Go.D3
namespace Go.D3
open Go
set_option maxHeartbeats 4000000
set_option maxRecDepth 100000
theorem IK{l:List (List Int)}{a b:Int}:(U ints [] l).c6 [.slice (.int .i64 0) [.int .i64 a,.int .i64 b]]=aO (l++[[a,b]]):=by
 simp only[U,D.c6,aO,List.map_append,List.map_cons,List.map_nil]
attribute [go_sem high] IK
def z8:List Nat:=[0,2,3,4,5,6]
def GW:Sl:=ae Go.Proofs.Tryz.types Go.Proofs.Tryz.f162 z8 []
theorem OB:aD Go.Proofs.Tryz.prog Go.Proofs.Tryz.f162 z8 GW 1=true:=by decide +kernel
theorem RB(l:List Int)(hl:l.length<=1048576):al Go.Proofs.Tryz.prog 162 [.v (ints l)] (ints (dK l)):=by
 refine aA Go.Proofs.Tryz.func162 OB ?_;unfold GW ae z8;simp only[go_sem];refine aI [5] (fun(i:Nat)=>[(2,.o (ints (dL (l.take i)).2)),(3,.o (ints (dL (l.take i)).1)),(4,.int .i64 i)]) (fun i=>i<=l.length) (fun i=>l.length-i) 0 (by simp only[go_sem];rfl) (Nat.zero_le _) rfl ?_;intro i hi;have hI:=mN (L:=l) i hi;have h1:=hI.len;have h2:=hI.sle hi;simp only[go_sem];refine⟨fun h=>⟨h,ak (RC _ _ (by omega)) rfl (.inl rfl) ?_⟩,fun h=>?_⟩
 ·have hs:dL (l.take (i+1))=iR (dL (l.take i)) (l.getD i 0):=by rw[b9 h 0,uU]
  have hw:=aH h (show l.length<=maxLen by simp only[maxLen];omega);generalize dL (l.take i)=st at hs h1 h2;simp only[go_sem];refine⟨fun hx=>?_,fun hx=>?_⟩
  ·refine⟨h,by omega,by omega,i+1,h,by omega,?_⟩
   rw[hs,iR,if_pos hx,hw]
  ·refine⟨by omega,i+1,h,by omega,?_⟩
   rw[hs,iR,if_neg hx,hw]
 ·rw[List.take_of_length_le (by omega)];rfl
theorem M5{n:Nat}:br (n+1)=br n++[(n:Int)]:=by unfold br;rw[List.range_succ,List.map_append];rfl
theorem EJ{l:List Int}{a b:Int}{i:Nat}(h:i<l.length):((dc l a b).take i++l.drop i).getD i 0=l.getD i 0:=by
 rw[List.getD_eq_getElem?_getD,List.getElem?_append_right (by rw[List.length_take,gA];omega),List.length_take,gA,Nat.min_eq_left (by omega),Nat.sub_self,List.getElem?_drop,Nat.add_zero,List.getD_eq_getElem?_getD]
theorem Qk{l:List Int}{a b:Int}{i:Nat}(h:i<l.length):(dc l a b).take (i+1)++l.drop (i+1)=((dc l a b).take i++l.drop i).set i (if l.getD i 0=b then a else l.getD i 0):=by
 have hl:i<(dc l a b).length:=by rw[gA];exact h
 rw[List.drop_eq_getElem_cons h,List.set_append_right _ _ (by rw[List.length_take];omega),List.length_take,Nat.min_eq_left (by omega),Nat.sub_self,List.set_cons_zero,b9 hl 0,pz h,List.append_assoc];rfl
def Ac:List Nat:=[0,1,4,5,6,7,8,9,10]
def GZ:Sl:=ae Go.Proofs.Tryz.types Go.Proofs.Tryz.f127 Ac []
theorem OE:aD Go.Proofs.Tryz.prog Go.Proofs.Tryz.f127 Ac GZ 2=true:=by decide +kernel
theorem RD(n:Nat)(P:List (List Int))(hn:n<=1048576)(hl:P.length<=1048576)(hP:∀k,k<P.length->∃a b:Nat,P.getD k []=[(a:Int),(b:Int)]/\a<n/\b<n):al Go.Proofs.Tryz.prog 127 [.v (.int .i64 n),.v (aO P)] (ints (dK (b7 (br n) P))):=by
 refine aA Go.Proofs.Tryz.func127 OE ?_;unfold GZ ae Ac;simp only[go_sem];refine aI [] (fun(i:Nat)=>[(3,.o (ints (br i))),(4,.int .i64 i)]) (fun i=>i<=n) (fun i=>n-i) 0 (by simp only[go_sem];rfl) (Nat.zero_le _) rfl ?_;intro i hi;simp only[go_sem];refine⟨fun h=>⟨by rw[dF];omega,i+1,by omega,by omega,by rw[aH (show i<n by omega) (by simp only[maxLen];omega),M5]⟩,fun h=>?_⟩;obtain rfl:i=n:=by omega
 refine aI [6,7,8] (fun(k:Nat)=>[(3,.o (ints (b7 (br i) (P.take k)))),(5,.int .i64 k)]) (fun k=>k<=P.length) (fun k=>P.length-k) 0 (by simp only[go_sem];rfl) (Nat.zero_le _) rfl ?_;intro k hk;have hL:(b7 (br i) (P.take k)).length=i:=by rw[qx,dF]
 simp only[go_sem];refine⟨fun h2=>?_,fun h2=>?_⟩
 ·obtain⟨u,v,hp,hu,hv⟩:=hP k h2
  have hs:b7 (br i) (P.take (k+1))=dc (b7 (br i) (P.take k)) ((b7 (br i) (P.take k)).getD u 0) ((b7 (br i) (P.take k)).getD v 0):=by
   rw[b9 h2 [],KO,hp];rfl
  have hw:=aH h2 (show P.length<=maxLen by simp only[maxLen];omega);rw[hp];simp only[List.getD_cons_zero,List.getD_cons_succ,Int.toNat_natCast,List.length_cons,List.length_nil];generalize b7 (br i) (P.take k)=L at hs hL;generalize L.getD u 0=x at hs;generalize L.getD v 0=y at hs;refine⟨h2,by omega,by omega,h2,by omega,by omega,?_⟩;refine aI [] (fun(j:Nat)=>[(3,.o (ints ((dc L x y).take j++L.drop j))),(8,.int .i64 j)]) (fun j=>j<=L.length) (fun j=>L.length-j) 0 (by simp only[go_sem];rfl) (Nat.zero_le _) rfl ?_;intro j hj;have hl2:((dc L x y).take j++L.drop j).length=L.length:=by rw[List.length_append,List.length_take,List.length_drop,gA];omega
  simp only[go_sem];simp only[hl2];refine⟨fun h3=>?_,fun h3=>?_⟩
  ·simp only[Bool.and_eq_true,decide_eq_true_eq,bne_iff_ne] at h3
   have aG:=Qk (a:=x) (b:=y) h3.1;have hw2:=aH h3.1 (show L.length<=maxLen by simp only[maxLen];omega);rw[EJ h3.1,hw2];refine⟨h3.1,fun h4=>⟨h3.1,h3.1,j+1,h3.1,by omega,?_⟩,fun h4=>⟨j+1,h3.1,by omega,?_⟩⟩
   ·rw[aG,if_pos h4]
   ·have h4:L.getD j 0≠y:=by simpa using h4
    rw[aG,if_neg h4]
    have e:((dc L x y).take j++L.drop j).set j (L.getD j 0)=(dc L x y).take j++L.drop j:=by
     rw[<-EJ (a:=x) (b:=y) h3.1,aX (by omega),List.set_getElem_self]
    rw[e]
  ·have:(dc L x y).take j++L.drop j=dc L x y:=by
    by_cases hxy:x=y
    ·have:dc L x y=L:=by
      subst hxy;unfold dc
      conv=>rhs;rw[<-List.map_id L]
      refine List.map_congr_left fun z _=>?_
      show(if z=x then x else z)=z;split<;>simp_all
     rw[this,List.take_append_drop]
    ·have:¬j<L.length:=fun h4=>by simp[h4,hxy] at h3
     rw[List.take_of_length_le (by rw[gA];omega),List.drop_of_length_le (by omega),List.append_nil]
   exact⟨k+1,h2,by omega,by rw[hs,this,hw]⟩
 ·rw[List.take_of_length_le (by omega)]
  refine ak (RB _ (by rw[qx,dF];exact hn)) rfl (.inl (bL _)) ?_;simp only[go_sem]
def Ao:List Nat:=[0,1,4]
def Hf:Sl:=ae Go.Proofs.Tryz.types Go.Proofs.Tryz.f100 Ao []
theorem OQ:aD Go.Proofs.Tryz.prog Go.Proofs.Tryz.f100 Ao Hf 2=true:=by decide +kernel
theorem RN(n:Nat)(P:List (List Int))(hn:n<=1048576)(hl:P.length<=1048576)(hP:∀k,k<P.length->∃a b:Nat,P.getD k []=[(a:Int),(b:Int)]/\a<n/\b<n):al Go.Proofs.Tryz.prog 100 [.v (.int .i64 n),.v (aO P)] (ints (dK (b7 (br n) P))):=by
 refine aA Go.Proofs.Tryz.func100 OQ ?_;unfold Hf ae Ao;simp only[go_sem];refine ak (RD n P hn hl hP) rfl (.inl (bL _)) ?_;simp only[go_sem]
end Go.D3
namespace Go.D3
open Go
set_option maxHeartbeats 4000000
set_option maxRecDepth 100000
def Au:List Nat:=[0,1,2,6,7]
def Hk:Sl:=ae Go.Proofs.Tryz.types Go.Proofs.Tryz.f102 Au []
theorem OV:aD Go.Proofs.Tryz.prog Go.Proofs.Tryz.f102 Au Hk 3=true:=by decide +kernel
theorem re(l:List Pth)(x:Int)(ed:List Int)(hl:l.length<=1048576)(he:∀i,i<l.length->(l.getD i Pth.zero).ed.length<=1048576) :
  al Go.Proofs.Tryz.prog 102 [.v (U Pth.d Pth.zero l),.v (.int .i64 x),.v (ints ed)] (.int .i64 (kP l x ed)):=by
 refine aA Go.Proofs.Tryz.func102 OV ?_;unfold Hk ae Au;simp only[go_sem];refine aI [] (fun i:Nat=>[(4,.int .i64 i)]) (fun i=>i<=l.findIdx fun p=>p.st == x&&p.ed == ed) (fun i=>l.length-i) 0 (by simp only[go_sem];rfl) (Nat.zero_le _) rfl ?_;intro i hi;have hfl:=List.findIdx_le_length (p:=fun p:Pth=>p.st == x&&p.ed == ed) (xs:=l);have hp:kP l x ed=if l.findIdx (fun p=>p.st == x&&p.ed == ed)<l.length then((l.findIdx (fun p=>p.st == x&&p.ed == ed):Nat):Int) else -1:=rfl
 simp only[go_sem];refine⟨fun h1=>⟨h1,fun h2=>⟨h2,h1⟩,bO (fun _=>xL _ _ (he i h1)) rfl (fun h=>h) (.inl rfl) ?_⟩,fun h1=>?_⟩
 ·simp only[go_sem]
  refine⟨fun h2=>?_,fun h2=>⟨i+1,?_,by omega,by rw[aH h1 (by simp only[maxLen];omega)]⟩⟩
  ·have:l.findIdx (fun p=>p.st == x&&p.ed == ed)<=i:=by
    apply Nat.le_of_not_lt;intro hh;have:=List.not_of_lt_findIdx hh;rw[<-aX (d:=Pth.zero) h1,h2] at this;cases this
   have e:l.findIdx (fun p=>p.st == x&&p.ed == ed)=i:=by omega
   rw[hp,e,if_pos h1]
  ·by_cases hlt:i<l.findIdx fun p=>p.st == x&&p.ed == ed
   ·omega
   ·have e:l.findIdx (fun p=>p.st == x&&p.ed == ed)=i:=by omega
    have:=List.findIdx_getElem (w:=show l.findIdx (fun p=>p.st == x&&p.ed == ed)<l.length by omega);simp only[e] at this;rw[<-aX (d:=Pth.zero) h1,h2] at this;cases this
 ·rw[hp,if_neg (by omega)]
def eE(p:Pth)(y:Int):List Int:=[p.st,y,p.ed.length]++p.ed
def Aq:List Nat:=[0,1,2,6,3,4,5,7,8]
def Hh:Sl:=ae Go.Proofs.Tryz.types Go.Proofs.Tryz.f126 Aq []
theorem OS:aD Go.Proofs.Tryz.prog Go.Proofs.Tryz.f126 Aq Hh 3=true:=by decide +kernel
theorem RO(s:Sch)(p q:Pth)(y z:Int)(hto:s.to.length=s.fr.length)(hp:s.aF p=some y)(hq:s.aF q=some z):al Go.Proofs.Tryz.prog 126 [.v (Sch.d s),.v (Pth.d p),.v (Pth.d q)] (.bool (lexB (eE p y) (eE q z))):=by
 refine aA Go.Proofs.Tryz.func126 OS ?_;unfold Hh ae Aq;simp only[go_sem];have h6:=(bw.1 hp).2.1;have h7:=(bw.1 hq).2.1;refine ak (me s p y hto hp) rfl (.inl rfl) ?_;simp only[go_sem];refine⟨nS _,by rw[List.length_map];omega,ak (me s q z hto hq) rfl (.inl rfl) ?_⟩;simp only[go_sem];refine⟨nS _,by rw[List.length_map];omega,ak (RE (eE p y) (eE q z) (by simp only[eE,List.length_append,List.length_cons,List.length_nil];omega)) rfl (.inl rfl) ?_⟩;simp only[go_sem]
def ep:Option Pth->D
 | some p=>.agg [.int .i64 p.st,.vw (ints p.ed)]
 | none=>.agg [.int .i64 0,ints []]
structure au where
 c:ai
 ls:List Pth
 ed:List Int
def au.cells(x:au):List D:=[.int .i64 x.c.ob,ints x.c.fr,ints x.c.to,ints x.c.aL,aO x.c.co,U ep none (x.ls.map some),ints x.ed]
def au.d(x:au):D:=.agg x.cells
attribute [go_sem] au.d.eq_1 au.cells.eq_1
def au.arr(x:au)(p:Pth)(i:Nat):Int:=(p.ed.take i).foldl (fun h e=>x.c.bE h (x.ed.getD e.toNat 0)) (x.c.fQ p.st)
def uc:List Nat:=[0,1,4,2,3,5,6]
def xU:Sl:=ae Go.Proofs.Tryz.types Go.Proofs.Tryz.f47 uc []
theorem DI:aD Go.Proofs.Tryz.prog Go.Proofs.Tryz.f47 uc xU 2=true:=by decide +kernel
theorem RL(x:au)(p:Pth)(hs : 0<=p.st/\p.st<x.c.aL.length)(he:∀i,i<p.ed.length->0<=p.ed.getD i 0/\p.ed.getD i 0<x.ed.length)
  (h:∀i,i<p.ed.length->(0<=x.arr p i/\x.arr p i<x.c.co.length)/\0<=x.ed.getD (p.ed.getD i 0).toNat 0/\x.ed.getD (p.ed.getD i 0).toNat 0<(x.c.co.getD (x.arr p i).toNat []).length) (hl:p.ed.length<=1048576) :
  al Go.Proofs.Tryz.prog 47 [.v (au.d x),.v (Pth.d p)] (.int .i64 (x.arr p p.ed.length)):=by
 refine aA Go.Proofs.Tryz.func47 DI ?_;unfold xU ae uc;simp only[go_sem];refine⟨hs,?_⟩;refine aI [] (fun(i:Nat)=>[(5,.int .i64 (x.arr p i)),(6,.int .i64 i)]) (fun i=>i<=p.ed.length) (fun i=>p.ed.length-i) 0 (by simp only[go_sem];rfl) (Nat.zero_le _) rfl ?_;intro i hi;simp only[go_sem];refine⟨fun h1=>?_,fun h1=>by rw[show i=p.ed.length by omega]⟩;obtain⟨h2,h3⟩:=h i h1;refine⟨h2,h1,he i h1,h3,i+1,h1,by omega,?_⟩
 have e:x.arr p (i+1)=(x.c.co.getD (x.arr p i).toNat []).getD (x.ed.getD (p.ed.getD i 0).toNat 0).toNat 0:=by
  unfold au.arr;rw[b9 h1 0,List.foldl_append];rfl
 rw[e,aH h1 (by simp only[maxLen];omega)]
end Go.D3
namespace Go.D3
open Go
theorem CX:∀a:List Int,lexB a a=false
 | []=>rfl
 | x::l=>by simp only[lexB,if_true];exact CX l
theorem qz:∀{a b:List Int},lexB a b=true->lexB b a=false
 | [],[],_=>rfl
 | [],_::_,_=>rfl
 | _::_,[],h=>by cases h
 | a::l,b::r,h=>by
  unfold lexB at h|-
  by_cases e:a=b
  ·rw[if_pos e] at h;rw[if_pos e.symm];exact qz h
  ·rw[if_neg e] at h;rw[if_neg (Ne.symm e)];simp at h|-;omega
theorem sE:∀{a b c:List Int},lexB b a=false->lexB c b=false->lexB c a=false
 | [],_,[],_,_=>rfl
 | [],_,_::_,_,_=>rfl
 | _::_,[],_,h,_=>by cases h
 | _::_,_::_,[],_,h=>by cases h
 | a::l,b::r,c::s,h1,h2=>by
  unfold lexB at h1 h2|-
  by_cases e1:b=a
  ·subst e1
   rw[if_pos rfl] at h1;by_cases e2:c=b
   ·subst e2;rw[if_pos rfl] at h2|-;exact sE h1 h2
   ·rw[if_neg e2] at h2|-;exact h2
  ·rw[if_neg e1] at h1
   by_cases e2:c=b
   ·subst e2;rw[if_neg e1];exact h1
   ·rw[if_neg e2] at h2
    simp at h1 h2;rw[if_neg (by omega)];simp;omega
theorem CW:∀{a b:List Int},lexB a b=false->lexB b a=false->a=b
 | [],[],_,_=>rfl
 | [],_::_,h,_=>by cases h
 | _::_,[],_,h=>by cases h
 | a::l,b::r,h1,h2=>by
  unfold lexB at h1 h2;by_cases e:a=b
  ·subst e;rw[if_pos rfl] at h1 h2;rw[CW h1 h2]
  ·rw[if_neg e] at h1;rw[if_neg (Ne.symm e)] at h2;simp at h1 h2;omega
def Sch.sp(s:Sch)(p:Pth):Prop:=∃y,s.aF p=some y
def Sch.en(s:Sch)(p:Pth):Int:=(s.aF p).getD 0
def Sch.ff(s:Sch)(p:Pth)(i a:Nat)(q:Pth):Prop :=
 i<s.lf.length/\a+(s.lf.getD i Pth.zero).ed.length<=p.ed.length/\bp s.fr s.to p.st (p.ed.take a)=some (s.lf.getD i Pth.zero).st /\
 (p.ed.take (a+(s.lf.getD i Pth.zero).ed.length)).drop a=(s.lf.getD i Pth.zero).ed/\p.ed.length-(s.lf.getD i Pth.zero).ed.length+(s.rt.getD i Pth.zero).ed.length<=6 /\
 q=⟨p.st,p.ed.take a++(s.rt.getD i Pth.zero).ed++p.ed.drop (a+(s.lf.getD i Pth.zero).ed.length)⟩
theorem CZ{s:Sch}(h:s.ok=true){p q:Pth}{y:Int}{i a:Nat}(hp:s.aF p=some y)(hl:s.ff p i a q):q.st=p.st/\s.aF q=some y:=by
 obtain⟨hi,h1,h2,h3,h4,rfl⟩:=hl;obtain⟨z,e1,e2,e3⟩:=ok_eq h hi;exact⟨rfl,rZ hp e1 e2 e3 h1 h2 rfl h3 h4⟩
inductive Sch.eqv(s:Sch):Pth->Pth->Prop
 | refl {p:Pth}:s.sp p->s.eqv p p
 | lk {p q:Pth} {i a:Nat}:s.sp p->s.ff p i a q->s.eqv p q
 | symm {p q:Pth}:s.eqv p q->s.eqv q p
 | trans {p q r:Pth}:s.eqv p q->s.eqv q r->s.eqv p r
theorem lC{s:Sch}(h:s.ok=true){p q:Pth}(e:s.eqv p q):p.st=q.st/\s.aF p=s.aF q/\s.sp p/\s.sp q:=by
 induction e with
 | refl hp=>exact⟨rfl,rfl,hp,hp⟩
 | lk hp hl =>
  obtain⟨y,hy⟩:=hp;have:=CZ h hy hl;exact⟨this.1.symm,by rw[hy,this.2],⟨y,hy⟩,⟨y,this.2⟩⟩
 | symm _ ih=>exact⟨ih.1.symm,ih.2.1.symm,ih.2.2.2,ih.2.2.1⟩
 | trans _ _ i1 i2=>exact⟨i1.1.trans i2.1,i1.2.1.trans i2.2.1,i1.2.2.1,i2.2.2.2⟩
def Sch.lt(s:Sch)(p q:Pth):Prop:=lexB (eE p (s.en p)) (eE q (s.en q))=true
theorem lt_asymm{s:Sch}{p q:Pth}(h:s.lt p q):¬s.lt q p:=fun h2=>by
 have:=qz h;unfold Sch.lt at h2;rw[this] at h2;cases h2
theorem o7{s:Sch}{p:Pth}:¬s.lt p p:=fun h=>lt_asymm h h
theorem lt_eq{s:Sch}{p q:Pth}(h1:¬s.lt p q)(h2:¬s.lt q p):p=q:=by
 unfold Sch.lt at h1 h2;rw[Bool.not_eq_true] at h1 h2;have:=CW h1 h2;unfold eE at this;simp only[List.cons_append,List.nil_append,List.cons.injEq] at this;cases p;cases q;simp only at this;rw[this.1,this.2.2.2]
theorem lt_trans{s:Sch}{p q r:Pth}(h1:s.lt p q)(h2:s.lt q r):s.lt p r:=by
 have a:=qz h1;have b:=qz h2;have c:=sE a b;by_cases h:s.lt p r
 ·exact h
 ·obtain rfl:=lt_eq h (by unfold Sch.lt;rw[c];exact Bool.noConfusion)
  exact absurd h1 (lt_asymm h2)
structure Sch.cu(s:Sch)(ls:List Pth):Prop where
 sp:∀p∈ls,s.sp p
 nZ:ls.Pairwise s.lt
 min:∀p∈ls,∀q,s.eqv p q->¬s.lt q p
 ex:∀p,s.sp p->∃q∈ls,s.eqv p q
theorem Sch.cu.sub{s:Sch}{l m:List Pth}(h:s.cu l)(g:s.cu m):∀p∈l,p∈m:=fun p hp=>by
 obtain⟨q,hq,he⟩:=g.ex p (h.sp p hp)
 rwa [lt_eq (g.min q hq p he.symm) (h.min p hp q he)]
theorem Sch.cu.nodup{s:Sch}{l:List Pth}(h:s.cu l):l.Nodup:=h.nZ.imp fun {a b} hl=>show a≠b from fun e=>o7 (e▸hl)
theorem Sch.cu.uniq{s:Sch}{l m:List Pth}(h:s.cu l)(g:s.cu m):l=m :=
 ((List.perm_ext_iff_of_nodup h.nodup g.nodup).2 fun p=>⟨h.sub g p,g.sub h p⟩).eq_of_pairwise (fun _ _ _ _ h1 h2=>absurd h1 (lt_asymm h2)) h.nZ g.nZ
open Classical in
noncomputable def Sch.no(s:Sch)(ls:List Pth)(p:Pth):Int:=if h:∃k:Nat,k<ls.length/\s.eqv p (ls.getD k Pth.zero) then((Classical.choose h:Nat):Int) else 0
theorem cR{α:Type}{l:List α}{i:Nat}{d:α}(h:i<l.length):l.getD i d∈l:=by rw[aX h];exact List.getElem_mem _
theorem dZ{α:Type}{l:List α}{x d:α}(h:x∈l):∃i,i<l.length/\l.getD i d=x:=by
 obtain⟨i,hi,e⟩:=List.getElem_of_mem h;exact⟨i,hi,by rw[aX hi,e]⟩
theorem Sch.cu.inj{s:Sch}{ls:List Pth}(h:s.cu ls){j k:Nat}(hj:j<ls.length)(hk:k<ls.length)(e:s.eqv (ls.getD j Pth.zero) (ls.getD k Pth.zero)):j=k:=by
 have a:=h.min _ (cR hj) _ e;have b:=h.min _ (cR hk) _ e.symm;have c:=lt_eq b a;rw[aX hj,aX hk] at c;exact(List.getElem_inj h.nodup).1 c
theorem Sch.cu.sO{s:Sch}{ls:List Pth}(h:s.cu ls){p:Pth}{k:Nat}(hk:k<ls.length)(e:s.eqv p (ls.getD k Pth.zero)):s.no ls p=k:=by
 have hx:∃k:Nat,k<ls.length/\s.eqv p (ls.getD k Pth.zero):=⟨k,hk,e⟩;unfold Sch.no;rw[dif_pos hx];have:=Classical.choose_spec hx;rw[h.inj this.1 hk (this.2.symm.trans e)]
theorem Sch.cu.Dq{s:Sch}{ls:List Pth}(h:s.cu ls){p:Pth}(hp:s.sp p):∃k:Nat,s.no ls p=k/\k<ls.length/\s.eqv p (ls.getD k Pth.zero):=by
 obtain⟨q,hq,he⟩:=h.ex p hp;obtain⟨k,hk,rfl⟩:=dZ (d:=Pth.zero) hq;exact⟨k,h.sO hk he,hk,he⟩
noncomputable def Sch.jq(s:Sch)(ls:List Pth)(h e:Int):Int:=s.no ls ⟨(ls.getD h.toNat Pth.zero).st,(ls.getD h.toNat Pth.zero).ed++[e]⟩
noncomputable def Sch.cmp(s:Sch)(ls:List Pth)(f g:Nat):Int :=
 if s.en (ls.getD f Pth.zero)=(ls.getD g Pth.zero).st then(ls.getD g Pth.zero).ed.foldl (s.jq ls) f else -1
noncomputable def Sch.cM(s:Sch)(ls:List Pth):au :=
 { c:={ ob:=s.nd,fr:=ls.map Pth.st,to:=ls.map s.en,aL:=(List.range s.nd.toNat).map fun x:Nat=>s.no ls ⟨x,[]⟩,co:=(List.range ls.length).map fun f=>(List.range ls.length).map fun g=>s.cmp ls f g },ls,ed:=(List.range s.fr.length).map fun k:Nat=>s.no ls ⟨s.fr.getD k 0,[(k:Int)]⟩ }
def Sch.fits(s:Sch):Prop:=∃l:List Pth,l.Nodup/\dp s l/\l.length<=400
def Sch.fx(s:Sch)(x:au):Bool:=x.c.jb&&(ca x.ls.length fun f=>x.arr (x.ls.getD f Pth.zero) (x.ls.getD f Pth.zero).ed.length == (f:Int)) &&
 ca s.lf.length fun i=>x.arr (s.lf.getD i Pth.zero) (s.lf.getD i Pth.zero).ed.length == x.arr (s.rt.getD i Pth.zero) (s.rt.getD i Pth.zero).ed.length
def Sch.all(s:Sch)(ls:List Pth):Prop:=(∀p∈ls,p.ed.length<6)/\ls.length<=40/\s.fx (s.cM ls)=true
inductive Sch.fv(s:Sch):Option au->Prop
 | many:¬s.fits->s.fv none
 | iE (ls:List Pth):s.cu ls->¬s.all ls->s.fv none
 | yes (ls:List Pth):s.fits->s.cu ls->s.all ls->s.fv (some (s.cM ls))
theorem fv.uniq{s:Sch}{a b:Option au}(ha:s.fv a)(hb:s.fv b):a=b:=by
 cases ha with
 | many h=>cases hb with
  | many=>rfl
  | iE=>rfl
  | yes _ g=>exact absurd g h
 | iE l hl h=>cases hb with
  | many=>rfl
  | iE=>rfl
  | yes m _ g1 g2=>rw[hl.uniq g1] at h;exact absurd g2 h
 | yes l h1 h2 h3=>cases hb with
  | many g=>exact absurd h1 g
  | iE m g1 g2=>rw[h2.uniq g1] at h3;exact absurd h3 g2
  | yes m g1 g2 g3=>rw[h2.uniq g2]
noncomputable def Sch.bn(s:Sch):Option au:=Classical.epsilon s.fv
theorem l8{s:Sch}{o:Option au}(h:s.fv o):s.bn=o:=fv.uniq (Classical.epsilon_spec ⟨o,h⟩) h
end Go.D3
