/- PLAIN LAWS: the text of a schema is read back piece by piece. -/
import Derived.Test.YtpjbamibcngihaaGreatDoorGAI
import Derived.Test.YtpjbamibcngihaaGreatDoorGAB
import Derived.Lib.RuneCount
namespace Go.D3
open Go
set_option maxHeartbeats 4000000
set_option maxRecDepth 100000
set_option maxHeartbeats 2000000
theorem No{a b:List UInt8}(ha:a.all bI=true)(hb:b=[]\/bI (b.getD 0 0)=false):∀(f pos:Nat),pos<=a.length->(a++b).length<=f+pos ->
  Lib.idxFuncFrom iu true ⟨(a++b).toArray⟩ f pos=if b=[] then -1 else(a.length:Int):=by
 have hsz:(⟨(a++b).toArray⟩:ByteArray).size=(a++b).length:=by show(a++b).toArray.size=_;simp
 have hap:∀{pos:Nat},pos<a.length->bI ((a++b).getD pos 0)=true:=fun {pos} h=>by
  rw[List.getD_eq_getElem?_getD,List.getElem?_append_left h,<-List.getD_eq_getElem?_getD,aS h];exact List.all_eq_true.1 ha _ (List.getElem_mem h)
 intro f;induction f with
 | zero =>
  intro pos h1 h2;rw[List.length_append] at h2;rw[if_pos (List.length_eq_zero_iff.1 (by omega))];rfl
 | succ f ih =>
  intro pos h1 h2;unfold Lib.idxFuncFrom;rw[hsz];by_cases hp:pos<(a++b).length
  ·rw[if_pos hp]
   have hr:Utf8.decode ⟨(a++b).toArray⟩ pos=cO (a++b) pos:=rfl;rw[hr];rcases zC hp with⟨hd,he⟩ | ⟨hd,he⟩
   ·have hpa:pos<a.length:=by
     by_cases hpa:pos<a.length
     ·exact hpa
     ·have e:pos=a.length:=by omega
      rw[e,List.getD_eq_getElem?_getD,List.getElem?_append_right (Nat.le_refl _),Nat.sub_self,<-List.getD_eq_getElem?_getD] at hd;rcases hb with rfl | hb
      ·simp at hp;omega
      ·rw[hb] at hd;cases hd
    rw[he,if_neg,ih (pos+1) (by omega) (by omega)];simp only[bI,Bool.and_eq_true,decide_eq_true_eq] at hd;unfold iu;simp only[Bool.or_eq_true,decide_eq_true_eq];omega
   ·have hpa:pos=a.length:=by
     by_cases hpa:pos<a.length
     ·rw[hap hpa] at hd;cases hd
     ·omega
    subst hpa;rw[if_pos,if_neg]
    ·rintro rfl;simp at hp
    ·unfold iu
     simp only[Bool.or_eq_true,decide_eq_true_eq];exact he
  ·rw[if_neg hp]
   rw[List.length_append] at hp;rw[if_pos (List.length_eq_zero_iff.1 (by omega))]
theorem tJ{n:Int}(h : 0<=n):(Lib.itoa n).all bI=true/\Lib.itoa n≠[]:=by
 obtain⟨m,rfl⟩:∃m:Nat,n=m:=⟨n.toNat,by omega⟩;rw[Lib.itoa_nonneg];obtain⟨h1,_,h3,_⟩:=wY m;exact⟨h1,h3⟩
theorem mi{n:Int}{most:Nat}(h : 0<=n)(hl:(Lib.itoa n).length<=most):bA most (Lib.itoa n)=some n.toNat:=by
 obtain⟨m,rfl⟩:∃m:Nat,n=m:=⟨n.toNat,by omega⟩;rw[Lib.itoa_nonneg] at hl|-
 exact wZ hl
theorem mj{n:Int}(h : 0<=n)(h1:n<10):(Lib.itoa n).length=1:=by
 obtain⟨m,rfl⟩:∃m:Nat,n=m:=⟨n.toNat,by omega⟩;rw[Lib.itoa_nonneg,Lib.decDigits_one (by omega)];rfl
theorem qN{e:Int}(h : 0<=e/\e<8):((fw e).toNat:Int)=97+e:=by
 unfold fw;rw[UInt8.toNat_ofNat',Nat.mod_eq_of_lt (by omega)];omega
theorem wrap_i32{n:Int}(h : 0<=n)(h1:n<1000):IntKind.i32.wrap n=n:=by
 rw[iH ⟨by simp only[IntKind.min,IntKind.signed,IntKind.bits];simp;omega,by simp only[IntKind.max,IntKind.signed,IntKind.bits];simp;omega⟩]
theorem Ii{s:List UInt8}{i:Nat}(h:i<s.length)(ha:(s.getD i 0).toNat<128):cO s i=((s.getD i 0).toNat,1):=by
 have hsz:i<(⟨s.toArray⟩:ByteArray).size:=by show i<s.toArray.size;simpa using h
 have hg:(⟨s.toArray⟩:ByteArray)[i]'hsz=s.getD i 0:=by rw[aS h];rfl
 unfold cO;rw[decode_ascii _ _ hsz (by rw[hg];exact ha),hg]
theorem Ij{s:List UInt8}{i:Nat}(h:i<s.length) : 1<=(cO s i).2:=Lib.decode_width_pos _ _ (by show i<s.toArray.size;simpa using h)
def Cy(t:List UInt8)(rc:D)(gs:List D):Prop:=gs=[]/\∃(p:U)(e:Bool),rc=.o (.au [U.d p,gy e])/\∀q,dC q->t=q.aL->p=q/\e=false
def AX:List Nat:=[0,2,3,4,5,6,7,8,9,11,43,44]
def IX:Sl:=ak Go.Proofs.Tryz.types Go.Proofs.Tryz.f136 AX []
theorem Q3:aF Go.Proofs.Tryz.prog Go.Proofs.Tryz.f136 AX IX 1=true:=by decide +kernel
theorem HI(t:List UInt8)(ht:t.length<=4294967000):bM Go.Proofs.Tryz.prog 136 [.str t] [] (Cy t):=by
 refine dN .tree Go.Proofs.Tryz.func136 Q3 ?_;unfold IX ak AX;simp only[go_sem];refine av Hv rfl (.inl rfl) ?_;simp only[go_sem];refine av UB rfl (.inl rfl) ?_;simp only[go_sem]
 have hq:∀q,dC q->t=q.aL->Lib.hasPrefix t [64]=true/\Lib.trimPrefix t [64]=Lib.itoa q.st++q.ed.map fw:=by
  rintro q hq rfl;have:Lib.hasPrefix q.aL [64]=true:=rfl;exact⟨this,by unfold Lib.trimPrefix;rw[if_pos this];rfl⟩
 have hrl:(Lib.trimPrefix t [64]).length<=t.length:=by unfold Lib.trimPrefix;split<;>simp
 generalize Lib.hasPrefix t [64]=fnd at hq;generalize Lib.trimPrefix t [64]=rest at hq hrl
 have hat:∀q,dC q->t=q.aL->(Lib.idxFunc iu true ⟨rest.toArray⟩<0->rest.length=(Lib.itoa q.st).length)/\(¬Lib.idxFunc iu true ⟨rest.toArray⟩<0->Lib.idxFunc iu true ⟨rest.toArray⟩=(Lib.itoa q.st).length):=by
  intro q h1 h2;obtain⟨_,h3⟩:=hq q h1 h2
  have hb:q.ed.map fw=[]\/bI ((q.ed.map fw).getD 0 0)=false:=by
   cases he:q.ed with
   | nil=>exact .inl rfl
   | cons e r =>
    have:=h1.ed 0 (by rw[he];simp);rw[he] at this;simp only[List.getD_cons_zero] at this;have:=qN this;refine .inr ?_;show bI (fw e)=false;simp only[bI,Bool.and_eq_false_iff,decide_eq_false_iff_not];omega
  have:=No (tJ h1.st.1).1 hb (⟨rest.toArray⟩:ByteArray).size 0 (Nat.zero_le _) (by show _<=rest.toArray.size+0;rw[h3];simp);rw[<-h3] at this;unfold Lib.idxFunc;rw[this];split
  ·rename_i hh
   exact⟨fun _=>by rw[h3,hh];simp,fun h=>absurd (by decide) h⟩
  ·exact⟨fun h=>by omega,fun _=>rfl⟩
 have hrg:=Lib.idxFunc_range iu true ⟨rest.toArray⟩;have hsz:(⟨rest.toArray⟩:ByteArray).size=rest.length:=by show rest.toArray.size=_;simp
 rw[hsz] at hrg;generalize Lib.idxFunc iu true ⟨rest.toArray⟩=ix at hat hrg;have no:(∀q,dC q->t≠q.aL)->Cy t (.o (.au [U.d U.zero,eS])) []:=fun h=>⟨rfl,U.zero,true,rfl,fun q h1 h2=>absurd h2 (h q h1)⟩
 refine⟨fun h=>?_,fun h=>?_⟩
 ·obtain⟨n,hn,hnl,hnq⟩:∃n:Nat,rest.length=n/\n<=rest.length/\∀q,dC q->t=q.aL->n=(Lib.itoa q.st).length:=⟨rest.length,rfl,Nat.le_refl _,fun q h1 h2=>(hat q h1 h2).1 h⟩
  rw[hn];refine⟨by omega,?_⟩;refine av (rM _) rfl (.inr trivial) ?_
  have hdq:∀q,dC q->t=q.aL->bA 6 (rest.take n)=some q.st.toNat:=fun q h1 h2=>by
   rw[(hq q h1 h2).2,hnq q h1 h2,List.take_left];exact mi h1.st.1 (by rw[mj h1.st.1 (by have:=h1.st;omega)];decide)
  cases hd:bA 6 (rest.take n) with
  | none =>
   rw[hd] at hdq;simp only[jl];simp only[go_sem];exact⟨by simp,_,_,no (fun q h1 h2=>by have:=hdq q h1 h2;cases this),rfl,rfl,trivial⟩
  | some m =>
   rw[hd] at hdq;simp only[jl];simp only[go_sem];refine⟨by simp,fun hf=>⟨_,_,no (fun q h1 h2=>by rw[(hq q h1 h2).1] at hf;cases hf),rfl,rfl,trivial⟩,fun _=>⟨by omega,?_⟩⟩;rw[List.take_of_length_le (by omega)];have hu:∀q,dC q->t=q.aL->rest.drop n=q.ed.map fw:=fun q h1 h2=>by rw[(hq q h1 h2).2,hnq q h1 h2,List.drop_left]
   have hul:(rest.drop n).length<=rest.length:=by rw[List.length_drop];omega
   generalize rest.drop n=u at hu hul;refine aE [9,11] (fun(p:Nat×List Int)=>[(8,.box [.int .i64 m,.o (ints p.2)]),(10,.o (.bR u p.1))]) (fun p=>p.2.length<=p.1/\∀q,dC q->t=q.aL->p.2=q.ed.take p.1) (fun p=>u.length-p.1) (0,[]) (by simp only[go_sem];rfl) ⟨Nat.le_refl _,fun _ _ _=>rfl⟩ rfl ?_;rintro⟨i,l⟩ ⟨hli,hlq⟩;simp only at hli hlq;simp only[go_sem]
   have ha:∀q,dC q->t=q.aL->i<u.length->0<=q.ed.getD i 0/\q.ed.getD i 0<8/\i<q.ed.length/\(cO u i).2=1/\((cO u i).1:Int)=97+q.ed.getD i 0:=by
    intro q h1 h2 h3;have hue:=hu q h1 h2;have h4:i<q.ed.length:=by rw[hue,List.length_map] at h3;exact h3
    obtain⟨a0,a1⟩:=h1.ed i h4;have hb:u.getD i 0=fw (q.ed.getD i 0):=by rw[hue,List.getD_eq_getElem?_getD,List.getElem?_map,List.getElem?_eq_getElem h4,aS h4];rfl
    have he:=qN ⟨a0,a1⟩;have hr:=Ii h3 (by rw[hb];omega);rw[hr,hb];exact⟨a0,a1,h4,rfl,he⟩
   refine⟨fun h3=>⟨by simp,fun h4=>⟨_,_,no (fun q h1 h2=>?_),rfl,rfl,trivial⟩,fun h4=>⟨by omega,?_⟩⟩,fun h3=>⟨_,_,⟨rfl,⟨m,l⟩,false,rfl,fun q h1 h2=>⟨?_,rfl⟩⟩,rfl,rfl,trivial⟩⟩
   ·obtain⟨a0,a1,a2,a3,a4⟩:=ha q h1 h2 h3
    rw[a4] at h4;simp only[Bool.or_eq_true,decide_eq_true_eq] at h4;omega
   ·simp only[Bool.or_eq_false_iff,decide_eq_false_iff_not] at h4
    have hw:IntKind.i64.wrap (IntKind.i32.wrap (((cO u i).1:Int)-97))=((cO u i).1:Int)-97:=by rw[wrap_i32 (by omega) (by omega),wrap_small (by omega) (by omega)]
    rw[hw];have hrp:=Ij h3;refine⟨(i+(cO u i).2,l++[((cO u i).1:Int)-97]),⟨by simp;omega,fun q h1 h2=>?_⟩,by show u.length-(i+_)<_;omega,rfl⟩;obtain⟨a0,a1,a2,a3,a4⟩:=ha q h1 h2 h3;show l++_=q.ed.take (i+(cO u i).2);rw[a3,a4,cH a2 0,hlq q h1 h2,Int.add_comm 97,Int.add_sub_cancel]
   ·have h5:=hdq q h1 h2
    have h6:=hlq q h1 h2;have h7:=hu q h1 h2;rw[List.take_of_length_le (by rw[h7,List.length_map] at h3;exact h3)] at h6;injection h5 with h5
    have:=h1.st;rw[h6,show(m:Int)=q.st by omega]
 ·obtain⟨n,rfl,hnl,hnq⟩:∃n:Nat,ix=n/\n<=rest.length/\∀q,dC q->t=q.aL->n=(Lib.itoa q.st).length:=⟨ix.toNat,by omega,by omega,fun q h1 h2=>by have:=(hat q h1 h2).2 h;omega⟩
  rw[Int.toNat_natCast];refine⟨by omega,?_⟩;refine av (rM _) rfl (.inr trivial) ?_
  have hdq:∀q,dC q->t=q.aL->bA 6 (rest.take n)=some q.st.toNat:=fun q h1 h2=>by
   rw[(hq q h1 h2).2,hnq q h1 h2,List.take_left];exact mi h1.st.1 (by rw[mj h1.st.1 (by have:=h1.st;omega)];decide)
  cases hd:bA 6 (rest.take n) with
  | none =>
   rw[hd] at hdq;simp only[jl];simp only[go_sem];exact⟨by simp,_,_,no (fun q h1 h2=>by have:=hdq q h1 h2;cases this),rfl,rfl,trivial⟩
  | some m =>
   rw[hd] at hdq;simp only[jl];simp only[go_sem];refine⟨by simp,fun hf=>⟨_,_,no (fun q h1 h2=>by rw[(hq q h1 h2).1] at hf;cases hf),rfl,rfl,trivial⟩,fun _=>⟨by omega,?_⟩⟩;rw[List.take_of_length_le (by omega)];have hu:∀q,dC q->t=q.aL->rest.drop n=q.ed.map fw:=fun q h1 h2=>by rw[(hq q h1 h2).2,hnq q h1 h2,List.drop_left]
   have hul:(rest.drop n).length<=rest.length:=by rw[List.length_drop];omega
   generalize rest.drop n=u at hu hul;refine aE [9,11] (fun(p:Nat×List Int)=>[(8,.box [.int .i64 m,.o (ints p.2)]),(10,.o (.bR u p.1))]) (fun p=>p.2.length<=p.1/\∀q,dC q->t=q.aL->p.2=q.ed.take p.1) (fun p=>u.length-p.1) (0,[]) (by simp only[go_sem];rfl) ⟨Nat.le_refl _,fun _ _ _=>rfl⟩ rfl ?_;rintro⟨i,l⟩ ⟨hli,hlq⟩;simp only at hli hlq;simp only[go_sem]
   have ha:∀q,dC q->t=q.aL->i<u.length->0<=q.ed.getD i 0/\q.ed.getD i 0<8/\i<q.ed.length/\(cO u i).2=1/\((cO u i).1:Int)=97+q.ed.getD i 0:=by
    intro q h1 h2 h3;have hue:=hu q h1 h2;have h4:i<q.ed.length:=by rw[hue,List.length_map] at h3;exact h3
    obtain⟨a0,a1⟩:=h1.ed i h4;have hb:u.getD i 0=fw (q.ed.getD i 0):=by rw[hue,List.getD_eq_getElem?_getD,List.getElem?_map,List.getElem?_eq_getElem h4,aS h4];rfl
    have he:=qN ⟨a0,a1⟩;have hr:=Ii h3 (by rw[hb];omega);rw[hr,hb];exact⟨a0,a1,h4,rfl,he⟩
   refine⟨fun h3=>⟨by simp,fun h4=>⟨_,_,no (fun q h1 h2=>?_),rfl,rfl,trivial⟩,fun h4=>⟨by omega,?_⟩⟩,fun h3=>⟨_,_,⟨rfl,⟨m,l⟩,false,rfl,fun q h1 h2=>⟨?_,rfl⟩⟩,rfl,rfl,trivial⟩⟩
   ·obtain⟨a0,a1,a2,a3,a4⟩:=ha q h1 h2 h3
    rw[a4] at h4;simp only[Bool.or_eq_true,decide_eq_true_eq] at h4;omega
   ·simp only[Bool.or_eq_false_iff,decide_eq_false_iff_not] at h4
    have hw:IntKind.i64.wrap (IntKind.i32.wrap (((cO u i).1:Int)-97))=((cO u i).1:Int)-97:=by rw[wrap_i32 (by omega) (by omega),wrap_small (by omega) (by omega)]
    rw[hw];have hrp:=Ij h3;refine⟨(i+(cO u i).2,l++[((cO u i).1:Int)-97]),⟨by simp;omega,fun q h1 h2=>?_⟩,by show u.length-(i+_)<_;omega,rfl⟩;obtain⟨a0,a1,a2,a3,a4⟩:=ha q h1 h2 h3;show l++_=q.ed.take (i+(cO u i).2);rw[a3,a4,cH a2 0,hlq q h1 h2,Int.add_comm 97,Int.add_sub_cancel]
   ·have h5:=hdq q h1 h2
    have h6:=hlq q h1 h2;have h7:=hu q h1 h2;rw[List.take_of_length_le (by rw[h7,List.length_map] at h3;exact h3)] at h6;injection h5 with h5
    have:=h1.st;rw[h6,show(m:Int)=q.st by omega]
end Go.D3
namespace Go.D3
open Go
def wB(b:UInt8):Bool:=decide (48<=b.toNat)&&decide (b.toNat<=64) || decide (97<=b.toNat)&&decide (b.toNat<=104)
theorem vJ{b:UInt8}(h:wB b=true):b≠32/\b≠124/\b≠45:=by
 unfold wB at h;simp only[Bool.or_eq_true,Bool.and_eq_true,decide_eq_true_eq] at h;refine⟨?_,?_,?_⟩<;>(rintro rfl;revert h;decide)
theorem s6{b:UInt8}(h:bI b=true):wB b=true:=by
 unfold wB;simp only[bI,Bool.and_eq_true,decide_eq_true_eq] at h;simp only[Bool.or_eq_true,Bool.and_eq_true,decide_eq_true_eq];omega
theorem mh{n:Int}{b:UInt8}(h : 0<=n)(hb:b∈Lib.itoa n):bI b=true:=List.all_eq_true.1 (tJ h).1 b hb
theorem sf{p:U}(h:dC p){b:UInt8}(hb:b∈p.aL):wB b=true/\b≠61:=by
 unfold U.aL at hb;rcases List.mem_cons.1 hb with rfl | hb
 ·decide
 ·rcases List.mem_append.1 hb with hb | hb
  ·have:=mh h.st.1 hb
   refine⟨s6 this,?_⟩;rintro rfl;revert this;decide
  ·obtain⟨e,he,rfl⟩:=List.mem_map.1 hb
   obtain⟨j,hj,rfl⟩:=List.getElem_of_mem he;have:=h.ed j hj;rw[aS hj] at this;have h2:=qN this;refine⟨by unfold wB;simp only[Bool.or_eq_true,Bool.and_eq_true,decide_eq_true_eq];omega,fun hh=>?_⟩;rw[hh] at h2;have:(61:UInt8).toNat=61:=rfl;omega
section
variable{s:aa}(h:eN s)
include h
theorem eN.D0{x:List UInt8}(hx:x∈s.dA s.fr.length):∀b∈x,wB b=true:=by
 obtain⟨i,hi,rfl⟩:=List.mem_map.1 hx;obtain⟨a,b⟩:=h.ed i (List.mem_range.1 hi);intro c hc;rcases List.mem_append.1 hc with hc | hc
 ·exact s6 (mh a.1 hc)
 ·rcases List.mem_cons.1 hc with rfl | hc
  ·decide
  ·exact s6 (mh b.1 hc)
theorem eN.Ed{x:List UInt8}(hx:x∈s.c6 s.lf.length):∀b∈x,wB b=true:=by
 obtain⟨i,hi,rfl⟩:=List.mem_map.1 hx;obtain⟨a,b⟩:=h.eq i (List.mem_range.1 hi);intro c hc;rcases List.mem_append.1 hc with hc | hc
 ·exact(sf a hc).1
 ·rcases List.mem_cons.1 hc with rfl | hc
  ·decide
  ·exact(sf b hc).1
end
theorem E0{l:List (List UInt8)}{c b:UInt8}(h:b∈Lib.join l [c]):b=c\/∃x∈l,b∈x:=by
 cases l with
 | nil=>rw[Lib.join_nil] at h;cases h
 | cons x r =>
  rw[Lib.join_cons] at h;rcases List.mem_append.1 h with h | h
  ·exact .inr ⟨x,by simp,h⟩
  ·unfold Lib.joinTail at h
   obtain⟨y,hy,hb⟩:=List.mem_flatten.1 h;obtain⟨z,hz,rfl⟩:=List.mem_map.1 hy;rcases List.mem_append.1 hb with hb | hb
   ·exact .inl (by simpa using hb)
   ·exact .inr ⟨z,by simp[hz],hb⟩
theorem GG{l:List (List UInt8)}(hl:∀x∈l,∀b∈x,wB b=true):(124:UInt8) ∉ da l:=by
 unfold da;split
 ·decide
 ·intro h
  rcases E0 h with h | ⟨x,hx,hb⟩
  ·cases h
  ·exact(vJ (hl x hx _ hb)).2.1 rfl
theorem K5{l:List (List UInt8)}(hl:∀x∈l,∀b∈x,wB b=true)(h0:∀x∈l,x≠[]):dv (da l)=l:=by
 unfold da;by_cases h:l=[]
 ·subst h;rfl
 ·rw[if_neg h]
  unfold dv;rw[if_neg,KI h fun x hx hb=>(vJ (hl x hx _ hb)).1 rfl];intro hj;have:(45:UInt8)∈Lib.join l [32]:=by rw[hj];simp
  rcases E0 this with h | ⟨x,hx,hb⟩
  ·cases h
  ·exact(vJ (hl x hx _ hb)).2.2 rfl
theorem GI{s:aa}(h:eN s):aT [32,124,32] 0 s.aL=[Lib.itoa s.nd,da (s.dA s.fr.length),da (s.c6 s.lf.length)]:=by
 unfold aa.aL
 rw[nV,nV,Lib.join_one,List.append_assoc,<-List.append_assoc,KB (by decide) fun hb=>(vJ (s6 (mh h.nd.1 hb))).2.1 rfl,
  KB (by decide) (GG fun x hx=>h.D0 hx),Wp (GG fun x hx=>h.Ed hx)]
theorem K3{s:aa}(h:eN s):dv (da (s.dA s.fr.length))=s.dA s.fr.length:=K5 (fun x hx=>h.D0 hx) fun x hx=>by
 obtain⟨i,_,rfl⟩:=List.mem_map.1 hx;unfold aa.jn;simp
theorem K4{s:aa}(h:eN s):dv (da (s.c6 s.lf.length))=s.c6 s.lf.length:=K5 (fun x hx=>h.Ed hx) fun x hx=>by
 obtain⟨i,_,rfl⟩:=List.mem_map.1 hx;unfold aa.j8;simp
theorem index_one{c:UInt8}{b:List UInt8}:∀{a:List UInt8},c ∉ a->Lib.index (a++c::b) [c]=a.length
 | [],_=>by rw[List.nil_append,Lib.index];simp[List.isPrefixOf]
 | x::a,h=>by
  have hx:x≠c:=fun hh=>h (by simp[hh])
  have:=index_one (c:=c) (b:=b) (a:=a) fun hh=>h (List.mem_cons_of_mem _ hh)
  have hp:([c]:List UInt8).isPrefixOf (x::(a++c::b))=false:=by rw[pR];simpa using hx
  rw[List.cons_append,Lib.index,hp];simp only[Bool.false_eq_true,if_false];rw[this,if_neg (by simp),List.length_cons];rfl
theorem qK{c:UInt8}{a b:List UInt8}(h:c ∉ a):Lib.cut (a++c::b) [c]=(a,b,true):=by
 unfold Lib.cut;rw[index_one h,if_pos (by omega),Int.toNat_natCast,List.take_left,show a.length + [c].length=(a++[c]).length by simp,show a++c::b=(a++[c])++b by simp,List.drop_left]
theorem KK{s:aa}(h:eN s){i:Nat}(hi:i<s.fr.length):iB (s.jn i)=some ((s.fr.getD i 0).toNat,(s.to.getD i 0).toNat):=by
 obtain⟨a,b⟩:=h.ed i hi;unfold iB aa.jn;rw[qK fun hb=>by have:=mh a.1 hb;revert this;decide];simp only[mi a.1 (most:=6) (by rw[mj a.1 (by omega)];decide),mi b.1 (most:=6) (by rw[mj b.1 (by omega)];decide)]
theorem Ms{s:aa}(h:eN s){i:Nat}(hi:i<s.lf.length):Lib.cut (s.j8 i) [61]=((s.lf.getD i U.zero).aL,(s.rt.getD i U.zero).aL,true) :=
 qK fun hb=>(sf (h.eq i hi).1 hb).2 rfl
theorem w7{s:aa}{n i:Nat}(h:i<n):(s.dA n).getD i []=s.jn i:=by
 unfold aa.dA;rw[List.getD_eq_getElem?_getD,List.getElem?_map,List.getElem?_range h];rfl
theorem Eb{s:aa}{n i:Nat}(h:i<n):(s.c6 n).getD i []=s.j8 i:=by
 unfold aa.c6;rw[List.getD_eq_getElem?_getD,List.getElem?_map,List.getElem?_range h];rfl
end Go.D3
