/- CONTRACTS: maps of schemas one after the other: the same schema. -/
import Derived.Test.YtpnchponfnbmiaaGreatDoorGAW
import Derived.Lib.RuneCount
import Derived.Test.YtpnchponfnbmiaaGreatDoorGAP
namespace Go.D3
open Go
set_option maxHeartbeats 4000000
set_option maxRecDepth 100000
set_option maxHeartbeats 2000000
theorem w9{n:Int}(h : 0<=n):(Lib.itoa n).all fO=true/\Lib.itoa n≠[]:=by
 obtain⟨m,rfl⟩:∃m:Nat,n=m:=⟨n.toNat,by omega⟩;rw[Lib.itoa_nonneg];obtain⟨h1,_,h3,_⟩:=C5 m;exact⟨h1,h3⟩
theorem tu{n:Int}{most:Nat}(h : 0<=n)(hl:(Lib.itoa n).length<=most):pM most (Lib.itoa n)=some n.toNat:=by
 obtain⟨m,rfl⟩:∃m:Nat,n=m:=⟨n.toNat,by omega⟩;rw[Lib.itoa_nonneg] at hl|-
 exact LU hl
theorem D6{n:Int}(h : 0<=n)(h1:n<10):(Lib.itoa n).length=1:=by
 obtain⟨m,rfl⟩:∃m:Nat,n=m:=⟨n.toNat,by omega⟩;rw[Lib.itoa_nonneg,Lib.decDigits_one (by omega)];rfl
theorem L1{e:Int}(h : 0<=e/\e<8):((hZ e).toNat:Int)=97+e:=by
 unfold hZ;rw[UInt8.toNat_ofNat',Nat.mod_eq_of_lt (by omega)];omega
end Go.D3
namespace Go.D3
open Go
def wB(b:UInt8):Bool:=decide (48<=b.toNat)&&decide (b.toNat<=64) || decide (97<=b.toNat)&&decide (b.toNat<=104)
theorem vp{b:UInt8}(h:wB b=true):b≠32/\b≠124/\b≠45:=by
 unfold wB at h;simp only[Bool.or_eq_true,Bool.and_eq_true,decide_eq_true_eq] at h;refine⟨?_,?_,?_⟩<;>(rintro rfl;revert h;decide)
theorem sW{b:UInt8}(h:fO b=true):wB b=true:=by
 unfold wB;simp only[fO,Bool.and_eq_true,decide_eq_true_eq] at h;simp only[Bool.or_eq_true,Bool.and_eq_true,decide_eq_true_eq];omega
theorem rf{n:Int}{b:UInt8}(h : 0<=n)(hb:b∈Lib.itoa n):fO b=true:=List.all_eq_true.1 (w9 h).1 b hb
theorem BH{p:Pth}(h:ku p){b:UInt8}(hb:b∈p.dw):wB b=true/\b≠61:=by
 unfold Pth.dw at hb;rcases List.mem_cons.1 hb with rfl | hb
 ·decide
 ·rcases List.mem_append.1 hb with hb | hb
  ·have:=rf h.st.1 hb
   refine⟨sW this,?_⟩;rintro rfl;revert this;decide
  ·obtain⟨e,he,rfl⟩:=List.mem_map.1 hb
   obtain⟨j,hj,rfl⟩:=List.getElem_of_mem he;have:=h.ed j hj;rw[aO hj] at this;have h2:=L1 this;refine⟨by unfold wB;simp only[Bool.or_eq_true,Bool.and_eq_true,decide_eq_true_eq];omega,fun hh=>?_⟩;rw[hh] at h2;have:(61:UInt8).toNat=61:=rfl;omega
section
variable{s:Sch}(h:er s)
include h
theorem er.Df{x:List UInt8}(hx:x∈s.ga s.fr.length):∀b∈x,wB b=true:=by
 obtain⟨i,hi,rfl⟩:=List.mem_map.1 hx;obtain⟨a,b⟩:=h.ed i (List.mem_range.1 hi);intro c hc;rcases List.mem_append.1 hc with hc | hc
 ·exact sW (rf a.1 hc)
 ·rcases List.mem_cons.1 hc with rfl | hc
  ·decide
  ·exact sW (rf b.1 hc)
theorem er.Dn{x:List UInt8}(hx:x∈s.dC s.lf.length):∀b∈x,wB b=true:=by
 obtain⟨i,hi,rfl⟩:=List.mem_map.1 hx;obtain⟨a,b⟩:=h.eq i (List.mem_range.1 hi);intro c hc;rcases List.mem_append.1 hc with hc | hc
 ·exact(BH a hc).1
 ·rcases List.mem_cons.1 hc with rfl | hc
  ·decide
  ·exact(BH b hc).1
end
theorem D9{l:List (List UInt8)}{c b:UInt8}(h:b∈Lib.join l [c]):b=c\/∃x∈l,b∈x:=by
 cases l with
 | nil=>rw[Lib.join_nil] at h;cases h
 | cons x r =>
  rw[Lib.join_cons] at h;rcases List.mem_append.1 h with h | h
  ·exact .inr ⟨x,by simp,h⟩
  ·unfold Lib.joinTail at h
   obtain⟨y,hy,hb⟩:=List.mem_flatten.1 h;obtain⟨z,hz,rfl⟩:=List.mem_map.1 hy;rcases List.mem_append.1 hb with hb | hb
   ·exact .inl (by simpa using hb)
   ·exact .inr ⟨z,by simp[hz],hb⟩
theorem FG{l:List (List UInt8)}(hl:∀x∈l,∀b∈x,wB b=true):(124:UInt8) ∉ gN l:=by
 unfold gN;split
 ·decide
 ·intro h
  rcases D9 h with h | ⟨x,hx,hb⟩
  ·cases h
  ·exact(vp (hl x hx _ hb)).2.1 rfl
theorem J3{l:List (List UInt8)}(hl:∀x∈l,∀b∈x,wB b=true)(h0:∀x∈l,x≠[]):qB (gN l)=l:=by
 unfold gN;by_cases h:l=[]
 ·subst h;rfl
 ·rw[if_neg h]
  unfold qB;rw[if_neg,JA h fun x hx hb=>(vp (hl x hx _ hb)).1 rfl];intro hj;have:(45:UInt8)∈Lib.join l [32]:=by rw[hj];simp
  rcases D9 this with h | ⟨x,hx,hb⟩
  ·cases h
  ·exact(vp (hl x hx _ hb)).2.2 rfl
theorem FI{s:Sch}(h:er s):df [32,124,32] 0 s.dw=[Lib.itoa s.nd,gN (s.ga s.fr.length),gN (s.dC s.lf.length)]:=by
 unfold Sch.dw
 rw[rj,rj,Lib.join_one,List.append_assoc,<-List.append_assoc,Jz (by decide) fun hb=>(vp (sW (rf h.nd.1 hb))).2.1 rfl,
  Jz (by decide) (FG fun x hx=>h.Df hx),Vc (FG fun x hx=>h.Dn hx)]
theorem J1{s:Sch}(h:er s):qB (gN (s.ga s.fr.length))=s.ga s.fr.length:=J3 (fun x hx=>h.Df hx) fun x hx=>by
 obtain⟨i,_,rfl⟩:=List.mem_map.1 hx;unfold Sch.jV;simp
theorem J2{s:Sch}(h:er s):qB (gN (s.dC s.lf.length))=s.dC s.lf.length:=J3 (fun x hx=>h.Dn hx) fun x hx=>by
 obtain⟨i,_,rfl⟩:=List.mem_map.1 hx;unfold Sch.kG;simp
theorem index_one{c:UInt8}{b:List UInt8}:∀{a:List UInt8},c ∉ a->Lib.index (a++c::b) [c]=a.length
 | [],_=>by rw[List.nil_append,Lib.index];simp[List.isPrefixOf]
 | x::a,h=>by
  have hx:x≠c:=fun hh=>h (by simp[hh])
  have:=index_one (c:=c) (b:=b) (a:=a) fun hh=>h (List.mem_cons_of_mem _ hh)
  have hp:([c]:List UInt8).isPrefixOf (x::(a++c::b))=false:=by rw[ym];simpa using hx
  rw[List.cons_append,Lib.index,hp];simp only[Bool.false_eq_true,if_false];rw[this,if_neg (by simp),List.length_cons];rfl
theorem C2{c:UInt8}{a b:List UInt8}(h:c ∉ a):Lib.cut (a++c::b) [c]=(a,b,true):=by
 unfold Lib.cut;rw[index_one h,if_pos (by omega),Int.toNat_natCast,List.take_left,show a.length + [c].length=(a++[c]).length by simp,show a++c::b=(a++[c])++b by simp,List.drop_left]
theorem JE{s:Sch}(h:er s){i:Nat}(hi:i<s.fr.length):JD (s.jV i)=some ((s.fr.getD i 0).toNat,(s.to.getD i 0).toNat):=by
 obtain⟨a,b⟩:=h.ed i hi;unfold JD Sch.jV;rw[C2 fun hb=>by have:=rf a.1 hb;revert this;decide];simp only[tu a.1 (most:=6) (by rw[D6 a.1 (by omega)];decide),tu b.1 (most:=6) (by rw[D6 b.1 (by omega)];decide)]
theorem C1{s:Sch}(h:er s){i:Nat}(hi:i<s.lf.length):Lib.cut (s.kG i) [61]=((s.lf.getD i Pth.zero).dw,(s.rt.getD i Pth.zero).dw,true) :=
 C2 fun hb=>(BH (h.eq i hi).1 hb).2 rfl
theorem Dd{s:Sch}{n i:Nat}(h:i<n):(s.ga n).getD i []=s.jV i:=by
 unfold Sch.ga;rw[List.getD_eq_getElem?_getD,List.getElem?_map,List.getElem?_range h];rfl
theorem Dm{s:Sch}{n i:Nat}(h:i<n):(s.dC n).getD i []=s.kG i:=by
 unfold Sch.dC;rw[List.getD_eq_getElem?_getD,List.getElem?_map,List.getElem?_range h];rfl
end Go.D3
namespace Go.D3
open Go
theorem D5{n m:Int}(hn : 0<=n)(hm : 0<=m)(h:Lib.itoa n=Lib.itoa m):n=m:=by
 have h1:=tu hn (Nat.le_refl _);have h2:=tu hm (Nat.le_refl _);rw[h,h2] at h1;have:=Option.some.inj h1;omega
theorem C7:∀{a b c d:List UInt8},a.all fO=true->c.all fO=true->(∀x∈b,fO x=false)->(∀x∈d,fO x=false)->a++b=c++d->a=c/\b=d
 | [],b,[],d,_,_,_,_,h=>⟨rfl,h⟩
 | [],b,y::c,d,_,hc,hb,_,h=>by
  rw[List.nil_append] at h;have h1:=hb y (by rw[h];exact List.mem_append_left _ (List.mem_cons_self ..));have h2:=List.all_eq_true.1 hc y (List.mem_cons_self ..);rw[h1] at h2;cases h2
 | x::a,b,[],d,ha,_,_,hd,h=>by
  rw[List.nil_append] at h;have h1:=hd x (by rw[<-h];exact List.mem_append_left _ (List.mem_cons_self ..));have h2:=List.all_eq_true.1 ha x (List.mem_cons_self ..);rw[h1] at h2;cases h2
 | x::a,b,y::c,d,ha,hc,hb,hd,h=>by
  rw[List.cons_append,List.cons_append,List.cons.injEq] at h;rw[List.all_cons,Bool.and_eq_true] at ha hc;obtain⟨e1,e2⟩:=C7 ha.2 hc.2 hb hd h.2;exact⟨by rw[h.1,e1],e2⟩
theorem LZ{e f:Int}(he : 0<=e/\e<8)(hf : 0<=f/\f<8)(h:hZ e=hZ f):e=f:=by
 have:=congrArg UInt8.toNat h;simp only[hZ,UInt8.toNat_ofNat'] at this;omega
theorem L0{e:Int}(he : 0<=e/\e<8):fO (hZ e)=false:=by
 have:(hZ e).toNat=97+e.toNat:=by simp only[hZ,UInt8.toNat_ofNat'];omega
 unfold fO;rw[this];simp only[Bool.and_eq_false_iff,decide_eq_false_iff_not];omega
theorem De:∀{a b:List Int},(∀x∈a,0<=x/\x<8)->(∀x∈b,0<=x/\x<8)->a.map hZ=b.map hZ->a=b
 | [],[],_,_,_=>rfl
 | [],_::_,_,_,h=>by cases h
 | _::_,[],_,_,h=>by cases h
 | x::a,y::b,ha,hb,h=>by
  rw[List.map_cons,List.map_cons,List.cons.injEq] at h;rw[LZ (ha x (List.mem_cons_self ..)) (hb y (List.mem_cons_self ..)) h.1,De (fun z hz=>ha z (List.mem_cons_of_mem _ hz)) (fun z hz=>hb z (List.mem_cons_of_mem _ hz)) h.2]
theorem EK{a:List Int}{P:Int->Prop}(h:∀i,i<a.length->P (a.getD i 0)):∀x∈a,P x:=fun x hx=>by
 obtain⟨i,hi,rfl⟩:=List.getElem_of_mem hx;have:=h i hi
 rwa [aO hi] at this
theorem Pth.vj{p q:Pth}(hp:ku p)(hq:ku q)(h:p.dw=q.dw):p=q:=by
 unfold Pth.dw at h;rw[List.cons.injEq] at h;have m1:=EK (P:=fun x=>0<=x/\x<8) hp.ed;have m2:=EK (P:=fun x=>0<=x/\x<8) hq.ed
 have nd:∀{l:List Int},(∀x∈l,0<=x/\x<8)->∀x∈l.map hZ,fO x=false:=fun hl x hx=>by
  obtain⟨e,he,rfl⟩:=List.mem_map.1 hx;exact L0 (hl e he)
 obtain⟨e1,e2⟩:=C7 (w9 hp.st.1).1 (w9 hq.st.1).1 (nd m1) (nd m2) h.2;have e3:=D5 hp.st.1 hq.st.1 e1;have e4:=De m1 m2 e2;cases p;cases q;simp only at e3 e4;rw[e3,e4]
theorem DZ{a b:List Int}(hl:a.length=b.length)(h:∀i,i<a.length->a.getD i 0=b.getD i 0):a=b:=by
 apply List.ext_getElem hl;intro i h1 h2;have:=h i h1
 rwa [aO h1,aO h2] at this
theorem FY{a b:List Pth}(hl:a.length=b.length)(h:∀i,i<a.length->a.getD i Pth.zero=b.getD i Pth.zero):a=b:=by
 apply List.ext_getElem hl;intro i h1 h2;have:=h i h1
 rwa [aO h1,aO h2] at this
theorem Sch.vj{s t:Sch}(hs:er s)(ht:er t)(h:s.dw=t.dw):s=t:=by
 have e:=FI hs;rw[h,FI ht] at e;simp only[List.cons.injEq,and_true] at e;obtain⟨e1,e2,e3⟩:=e;have a1:=D5 ht.nd.1 hs.nd.1 e1;have a2:=congrArg qB e2;rw[J1 ht,J1 hs] at a2;have a3:=congrArg qB e3;rw[J2 ht,J2 hs] at a3;have l2:t.fr.length=s.fr.length:=by simpa[Sch.ga] using congrArg List.length a2
 have l3:t.lf.length=s.lf.length:=by simpa[Sch.dC] using congrArg List.length a3
 have f2:∀i,i<s.fr.length->s.fr.getD i 0=t.fr.getD i 0/\s.to.getD i 0=t.to.getD i 0:=fun i hi=>by
  have x1:t.jV i=s.jV i:=by
   rw[<-Dd (s:=t) (n:=t.fr.length) (by omega),a2,Dd hi]
  have x2:=JE ht (i:=i) (by omega);rw[x1,JE hs hi] at x2;simp only[Option.some.injEq,Prod.mk.injEq] at x2;have y1:=hs.ed i hi;have y2:=ht.ed i (by omega);omega
 have f3:∀i,i<s.lf.length->s.lf.getD i Pth.zero=t.lf.getD i Pth.zero/\s.rt.getD i Pth.zero=t.rt.getD i Pth.zero:=fun i hi=>by
  have x1:t.kG i=s.kG i:=by
   rw[<-Dm (s:=t) (n:=t.lf.length) (by omega),a3,Dm hi]
  have x2:=C1 ht (i:=i) (by omega);rw[x1,C1 hs hi] at x2;simp only[Prod.mk.injEq,and_true] at x2;have y1:=hs.eq i hi;have y2:=ht.eq i (by omega);exact⟨Pth.vj y1.1 y2.1 x2.1,Pth.vj y1.2 y2.2 x2.2⟩
 have b1:s.fr=t.fr:=DZ (by omega) fun i hi=>(f2 i hi).1
 have b2:s.to=t.to:=DZ (by rw[hs.to,ht.to];omega) fun i hi=>(f2 i (by rw[hs.to] at hi;exact hi)).2
 have b3:s.lf=t.lf:=FY (by omega) fun i hi=>(f3 i hi).1
 have b4:s.rt=t.rt:=FY (by rw[hs.rt,ht.rt];omega) fun i hi=>(f3 i (by rw[hs.rt] at hi;exact hi)).2
 cases s;cases t;simp only at a1 b1 b2 b3 b4;rw[a1,b1,b2,b3,b4]
end Go.D3
namespace Go.D3
open Go
set_option maxHeartbeats 4000000
set_option maxRecDepth 100000
def AG:List Nat:=[0,1,4]
def Ic:Sl:=ae Go.Proofs.Tryz.types Go.Proofs.Tryz.f52 AG []
theorem P8:aD Go.Proofs.Tryz.prog Go.Proofs.Tryz.f52 AG Ic 2=true:=by decide +kernel
theorem GR{s t:Sch}(hs:er s)(ht:er t):al Go.Proofs.Tryz.prog 52 [.v (.ptr s.cells),.v (.ptr t.cells)] (.bool (ja s t)):=by
 refine aC Go.Proofs.Tryz.func52 P8 ?_;unfold Ic ae AG;simp only[go_sem];refine af (GL s hs) rfl (.inl rfl) ?_;simp only[go_sem];refine af (GL t ht) rfl (.inl rfl) ?_;simp only[go_sem];by_cases e:s=t
 ·subst e
  rw[<-oz rfl];simp
 ·rw[<-lA e]
  have:s.dw≠t.dw:=fun h=>e (Sch.vj hs ht h)
  simpa using this
end Go.D3
