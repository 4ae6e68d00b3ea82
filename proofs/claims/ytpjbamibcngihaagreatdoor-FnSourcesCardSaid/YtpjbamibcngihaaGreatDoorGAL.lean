/- CONTRACTS: paths and schemas,the reference's side. -/
import Derived.Test.YtpjbamibcngihaaGreatDoorGAK
import Derived.Test.YtpjbamibcngihaaGreatDoorGAG
namespace Go.D3
open Go
set_option maxHeartbeats 4000000
set_option maxRecDepth 100000
noncomputable def eN(t:List UInt8):Option aa:=by
 classical
 exact if h:∃q:aa,q.ok=true/\t=q.aM then some h.choose else none
theorem sZ{t:List UInt8}(h:∀q:aa,q.ok=true->t≠q.aM):eN t=none:=by
 unfold eN;rw[dif_neg];rintro⟨q,h1,h2⟩;exact h q h1 h2
theorem Gz{t:List UInt8}{s:aa}(h:s.ok=true)(ht:t=s.aM)(hu:∀q:aa,q.ok=true->t=q.aM->s=q):eN t=some s:=by
 unfold eN;have hh:∃q:aa,q.ok=true/\t=q.aM:=⟨s,h,ht⟩;rw[dif_pos hh,hu _ hh.choose_spec.1 hh.choose_spec.2]
theorem As{t:List UInt8}{s:aa}(h:eN t=some s):s.ok=true/\t=s.aM:=by
 unfold eN at h;split at h
 ·rename_i hh
  injection h with h
  rw[<-h];exact hh.choose_spec
 ·cases h
def kC:Option aa->D
 | some s=>.au [aa.d s,.int .i64 0]
 | none=>.au [aa.d aa.zero,.int .i64 6]
theorem IA(o:Option aa):(kC o).bl=true:=by cases o<;>simp only[kC,D.bl,dE,UI,Bool.and_self]
theorem ET{a b:Bool}(h:(a || b)=true):∃r,jh a b=ie (eS::r):=by
 match a,b,h with
 | false,false,h=>cases h
 | false,true,_=>exact⟨[],rfl⟩
 | true,false,_=>exact⟨[],rfl⟩
 | true,true,_=>exact⟨[eS],rfl⟩
def vS:List Nat:=[0,2,3,4,5]
def B5:Sl:=ak Go.Proofs.Tryz.types Go.Proofs.Tryz.f73 vS [(0,102)]
theorem Kw:aI Go.Proofs.Tryz.prog Go.Proofs.Tryz.f73 vS B5 1=true:=by decide +kernel
theorem Kv(t:List UInt8)(ht:t.length<=4294966000):aC Go.Proofs.Tryz.prog 73 [.v (.str t)] (kC (eN t)):=by
 refine aT Go.Proofs.Tryz.func73 Kw ?_;unfold B5 ak vS;simp only[go_sem];refine bm [] false (Kn t ht) ?_;rintro _ _ ⟨rfl,s,e,rfl,he,hq⟩;refine⟨(by repeat(first | exact trivial | refine⟨(fun h=>by cases h),?_⟩)),(fun h=>by cases h),?_⟩
 have bad:rE e->eN t=none:=fun h=>sZ fun q h1 h2=>by
  have:=(hq q h1 h2).2;cases h with
  | one=>cases this
  | @join a b hab =>
   obtain⟨r,hj⟩:=ET hab;rw[hj] at this;cases this
 rcases he with rfl | he
 ·simp only[go_sem]
  refine ax Pd rfl (.inl rfl) ?_;simp only[go_sem];refine bG (fun _=>J7 s) rfl (fun h=>h) (.inl rfl) ?_;simp only[go_sem];cases hok:s.ok with
  | false =>
   rw[sZ fun q h1 h2=>by have:=(hq q h1 h2).1;rw[this] at hok;rw[hok] at h1;cases h1];simp only[go_sem];refine bG (res:=.str []) (fun h=>by cases h) rfl (fun h=>by cases h) (.inl rfl) ?_;simp only[go_sem];rfl
  | true =>
   simp only[go_sem];refine bG (fun _=>Ks s (cJ hok)) rfl (fun h=>h) (.inl rfl) ?_;simp only[go_sem];refine⟨fun h=>?_,fun h=>?_⟩
   ·rw[sZ fun q h1 h2=>by have:=(hq q h1 h2).1;rw[this,<-h2] at h;simp at h]
    rfl
   ·rw[Gz hok (by simpa using Eq.symm (by simpa using h)) fun q h1 h2=>(hq q h1 h2).1]
    rfl
 ·rw[bad he]
  cases he with
  | one =>
   simp only[go_sem];refine ax N0 rfl (.inl rfl) ?_;simp only[go_sem];refine bG (res:=.bool false) (fun h=>by cases h) rfl (fun h=>by cases h) (.inl rfl) ?_;simp only[go_sem];refine bG (res:=.str []) (fun h=>by cases h) rfl (fun h=>by cases h) (.inl rfl) ?_;simp only[go_sem];rfl
  | @join a b hab =>
   obtain⟨r,hj⟩:=ET hab;rw[hj];simp only[ie];simp only[go_sem];refine ax (OH (r:=r)) rfl (.inl rfl) ?_;simp only[go_sem];refine bG (res:=.bool false) (fun h=>by cases h) rfl (fun h=>by cases h) (.inl rfl) ?_;simp only[go_sem];refine bG (res:=.str []) (fun h=>by cases h) rfl (fun h=>by cases h) (.inl rfl) ?_;simp only[go_sem];rfl
end Go.D3
namespace Go.D3
open Go
set_option maxRecDepth 100000
theorem HL{fr to:List Int}:∀{l:List Int}{x:Int},bU fr.length l=false->bD fr to x l=none
 | [],x,h=>by cases h
 | e::l,x,h=>by
  rw[bD];split
  ·rename_i hc
   simp only[Bool.and_eq_true,aL,decide_eq_true_eq] at hc;refine HL ?_;unfold bU at h|-
   rw[List.all_cons,Bool.and_eq_false_iff] at h;rcases h with h | h
   ·simp at h;omega
   ·exact h
  ·rfl
def w5:List Nat:=[0,1,4,2,3,5,6]
def Dt:Sl:=ak Go.Proofs.Tryz.types Go.Proofs.Tryz.f144 w5 []
theorem Mb:aI Go.Proofs.Tryz.prog Go.Proofs.Tryz.f144 w5 Dt 2=true:=by decide +kernel
theorem CA(s:aa)(p:U)(hto:s.to.length=s.fr.length)(hn : 0<=s.nd):aC Go.Proofs.Tryz.prog 144 [.v (aa.d s),.v (U.d p)] (.bool (s.aU p).isSome):=by
 refine fe fun hw=>?_
 simp only[dM,gf,aa.d,U.d,aa.cells,U.cells,D.dh,fT,IntKind.has,IntKind.max,IntKind.signed,IntKind.bits] at hw;have hn2:s.nd<=9223372036854775807:=by simpa using hw.1.1.2
 have hl:p.ed.length<=maxLen:=hw.2.1.2.1.1;have hsub:IntKind.i64.wrap (s.nd-1)=s.nd-1:=gT ⟨by simp[IntKind.min,IntKind.signed,IntKind.bits];omega,by simp[IntKind.max,IntKind.signed,IntKind.bits];omega⟩;refine aT Go.Proofs.Tryz.func144 Mb ?_;unfold Dt ak w5;simp only[go_sem];rw[hsub];refine ax (jK _ _ _) rfl (.inl rfl) ?_;simp only[go_sem]
 have he:(aL p.st 0 (s.nd-1)&&decide (p.ed.length<=6))=!(!aL p.st 0 (s.nd-1) || decide ((6:Int)<(p.ed.length:Int))):=by
  rw[Bool.not_or,Bool.not_not,<-decide_not];congr 1;exact decide_eq_decide.2 (by omega)
 refine⟨fun h=>by simpa using h,bG (fun _=>qf _ _) rfl (fun h=>h) (.inl rfl) ?_⟩;simp only[go_sem];refine⟨(fun h=>by simp only[Bool.or_eq_false_iff,Bool.and_eq_true,Bool.not_eq_true',Bool.not_eq_false'] at h|-;exact h),fun h=>?_,fun h=>?_⟩
 ·unfold aa.aU
  rw[he];rw[Bool.or_eq_true,Bool.not_eq_true'] at h;rcases h with h | h
  ·rw[h];rfl
  ·rw[HL h];simp
 ·rw[Bool.or_eq_false_iff,Bool.not_eq_false'] at h
  have hE:s.aU p=bD s.fr s.to p.st p.ed:=by unfold aa.aU;rw[he,h.1];rfl
  rw[hE];have hm:=fun i hi=>dJ h.2 (i:=i) hi
  refine aG [] (fun(q:Nat×Int)=>[(5,.int .i64 q.2),(6,.int .i64 q.1)]) (fun q=>q.1<=p.ed.length/\bD s.fr s.to q.2 (p.ed.drop q.1)=bD s.fr s.to p.st p.ed) (fun q=>p.ed.length-q.1) (0,p.st) (by simp only[go_sem];rfl) ⟨Nat.zero_le _,rfl⟩ rfl ?_;rintro⟨i,y⟩ ⟨hi,ha⟩;simp only at hi ha;simp only[go_sem];refine⟨fun h2=>?_,fun h2=>?_⟩
  ·have hmi:=hm i h2
   rw[zi h2] at ha;have hin:aL (p.ed.getD i 0) 0 ((s.fr.length:Int)-1)=true:=by unfold aL;simp only[Bool.and_eq_true,decide_eq_true_eq];omega
   rw[hin,Bool.true_and] at ha;refine⟨h2,hmi,fun h3=>?_,fun h3=>⟨h2,by omega,(i+1,s.to.getD (p.ed.getD i 0).toNat 0),⟨h2,?_⟩,by show p.ed.length-(i+1)<p.ed.length-i;omega,by rw[aN h2 hl]⟩⟩
   ·rw[bne_iff_ne] at h3
    rw[if_neg (by rw[beq_iff_eq];exact h3)] at ha;rw[<-ha];rfl
   ·rw[bne_eq_false_iff_eq] at h3
    rw[if_pos (by rw[beq_iff_eq];exact h3)] at ha;exact ha
  ·rw[show i=p.ed.length by omega,List.drop_length] at ha
   rw[<-ha];rfl
theorem tM{fr to:List Int}:∀{l:List Int}{x y:Int},bD fr to x l=some y->y=(if l=[] then x else to.getD (l.getD (l.length-1) 0).toNat 0)/\∀i,i<l.length->0<=l.getD i 0/\l.getD i 0<fr.length
 | [],x,y,h=>by rw[bD] at h;injection h with h;subst h;exact⟨rfl,fun i hi=>by simp at hi⟩
 | e::l,x,y,h=>by
  rw[bD] at h;split at h
  ·rename_i hc
   simp only[Bool.and_eq_true,aL,decide_eq_true_eq] at hc;obtain⟨h1,h2⟩:=tM h;refine⟨?_,fun i hi=>?_⟩
   ·rw[if_neg (by simp),h1]
    cases l with
    | nil=>rfl
    | cons f l=>rw[if_neg (by simp)];rfl
   ·cases i with
    | zero=>exact⟨hc.1.1,by show e<_;omega⟩
    | succ i=>exact h2 i (by simpa using hi)
  ·cases h
def xy:List Nat:=[0,1,4,2,3]
def DE:Sl:=ak Go.Proofs.Tryz.types Go.Proofs.Tryz.f117 xy []
theorem ME:aI Go.Proofs.Tryz.prog Go.Proofs.Tryz.f117 xy DE 2=true:=by decide +kernel
theorem nf(s:aa)(p:U)(y:Int)(hto:s.to.length=s.fr.length)(h:s.aU p=some y):aC Go.Proofs.Tryz.prog 117 [.v (aa.d s),.v (U.d p)] (.int .i64 y):=by
 obtain⟨_,h6,hf⟩:=tp h;obtain⟨hy,hr⟩:=tM hf;refine aT Go.Proofs.Tryz.func117 ME ?_;unfold DE ak xy;simp only[go_sem];refine⟨fun h2=>?_,fun h2=>?_⟩
 ·rw[hy,if_pos (List.length_eq_zero_iff.1 (by simpa using h2))]
 ·have h2:p.ed.length≠0:=by simpa using h2
  have hne:¬p.ed=[]:=fun e=>h2 (by rw[e];rfl)
  rw[if_neg hne] at hy;rw[Fg (by simp only[maxLen];omega)];have e1:((p.ed.length:Int)-1).toNat=p.ed.length-1:=by omega
  have:=hr (p.ed.length-1) (by omega);rw[e1];exact⟨by omega,by omega,by rw[hy]⟩
def xm:List Nat:=[0,1,2,6,7]
def Ds:Sl:=ak Go.Proofs.Tryz.types Go.Proofs.Tryz.f129 xm []
theorem Md:aI Go.Proofs.Tryz.prog Go.Proofs.Tryz.f129 xm Ds 3=true:=by decide +kernel
theorem Cs(mp:List (List Int))(l:List Int)(r:Int)(hok:je mp r l):aC Go.Proofs.Tryz.prog 129 [.v (aK mp),.v (ints l),.v (.int .i64 r)] (.int .i64 (iK mp r l)):=by
 refine fe fun hw=>?_
 simp only[dM,gf] at hw;have hl:l.length<=maxLen:=hw.2.1.1;refine aT Go.Proofs.Tryz.func129 Md ?_;unfold Ds ak xm;simp only[go_sem];refine aG [] (fun(p:Nat×Int)=>[(2,.int .i64 p.2),(4,.int .i64 p.1)]) (fun p=>p.1<=l.length/\iK mp p.2 (l.drop p.1)=iK mp r l/\je mp p.2 (l.drop p.1)) (fun p=>l.length-p.1) (0,r) (by simp only[go_sem];rfl) ⟨Nat.zero_le _,rfl,hok⟩ rfl ?_;rintro⟨i,y⟩ ⟨hi,ha,hb⟩;simp only[go_sem];simp only at hi ha hb;refine⟨fun h=>?_,fun h=>?_⟩
 ·obtain⟨e1,e2⟩:=E9 (mp:=mp) (r:=y) h
  obtain⟨b1,b2,b3⟩:=e2 hb;exact⟨h,b1,b2,(i+1,(mp.getD (l.getD i 0).toNat []).getD y.toNat 0),⟨h,e1▸ha,b3⟩,by show l.length-(i+1)<l.length-i;omega,by rw[aN h hl]⟩
 ·rw[show i=l.length by omega,List.drop_length] at ha
  rw[<-ha];rfl
end Go.D3
