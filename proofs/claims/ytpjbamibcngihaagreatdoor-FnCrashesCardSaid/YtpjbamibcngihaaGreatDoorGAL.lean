/- CONTRACTS: paths and schemas, the reference's side. -/
import Derived.Test.YtpjbamibcngihaaGreatDoorGAK
import Derived.Test.YtpjbamibcngihaaGreatDoorGAG
namespace Go.D3
open Go
set_option maxHeartbeats 4000000
set_option maxRecDepth 100000
noncomputable def eE(t:List UInt8):Option aa:=by
 classical
 exact if h:∃q:aa,q.ok=true/\t=q.aL then some h.choose else none
theorem uN{t:List UInt8}(h:∀q:aa,q.ok=true->t≠q.aL):eE t=none:=by
 unfold eE;rw[dif_neg];rintro⟨q,h1,h2⟩;exact h q h1 h2
theorem GS{t:List UInt8}{s:aa}(h:s.ok=true)(ht:t=s.aL)(hu:∀q:aa,q.ok=true->t=q.aL->s=q):eE t=some s:=by
 unfold eE;have hh:∃q:aa,q.ok=true/\t=q.aL:=⟨s,h,ht⟩;rw[dif_pos hh,hu _ hh.choose_spec.1 hh.choose_spec.2]
theorem uO{t:List UInt8}{s:aa}(h:eE t=some s):s.ok=true/\t=s.aL:=by
 unfold eE at h;split at h
 ·rename_i hh
  injection h with h
  rw[<-h];exact hh.choose_spec
 ·cases h
def kA:Option aa->D
 | some s=>.au [aa.d s,.int .i64 0]
 | none=>.au [aa.d aa.zero,.int .i64 6]
theorem GR(o:Option aa):(kA o).ba=true:=by cases o<;>simp only[kA,D.ba,cB,Qk,Bool.and_self]
theorem EZ{a b:Bool}(h:(a || b)=true):∃r,jz a b=iq (eS::r):=by
 match a,b,h with
 | false,false,h=>cases h
 | false,true,_=>exact⟨[],rfl⟩
 | true,false,_=>exact⟨[],rfl⟩
 | true,true,_=>exact⟨[eS],rfl⟩
def Au:List Nat:=[0,2,3,4,5]
def It:Sl:=ak Go.Proofs.Tryz.types Go.Proofs.Tryz.f73 Au [(0,102)]
theorem QA:aF Go.Proofs.Tryz.prog Go.Proofs.Tryz.f73 Au It 1=true:=by decide +kernel
theorem Ul(t:List UInt8)(ht:t.length<=4294966000):aC Go.Proofs.Tryz.prog 73 [.v (.str t)] (kA (eE t)):=by
 refine aQ Go.Proofs.Tryz.func73 QA ?_;unfold It ak Au;simp only[go_sem];refine bf [] false (Uz t ht) ?_;rintro _ _ ⟨rfl,s,e,rfl,he,hq⟩;refine⟨(by repeat(first | exact trivial | refine⟨(fun h=>by cases h),?_⟩)),(fun h=>by cases h),?_⟩
 have bad:qo e->eE t=none:=fun h=>uN fun q h1 h2=>by
  have:=(hq q h1 h2).2;cases h with
  | one=>cases this
  | @join a b hab =>
   obtain⟨r,hj⟩:=EZ hab;rw[hj] at this;cases this
 rcases he with rfl | he
 ·simp only[go_sem]
  refine av UD rfl (.inl rfl) ?_;simp only[go_sem];refine bt (fun _=>zp s) rfl (fun h=>h) (.inl rfl) ?_;simp only[go_sem];cases hok:s.ok with
  | false =>
   rw[uN fun q h1 h2=>by have:=(hq q h1 h2).1;rw[this] at hok;rw[hok] at h1;cases h1];simp only[go_sem];refine bt (res:=.str []) (fun h=>by cases h) rfl (fun h=>by cases h) (.inl rfl) ?_;simp only[go_sem];rfl
  | true =>
   simp only[go_sem];refine bt (fun _=>HB s (cJ hok)) rfl (fun h=>h) (.inl rfl) ?_;simp only[go_sem];refine⟨fun h=>?_,fun h=>?_⟩
   ·rw[uN fun q h1 h2=>by have:=(hq q h1 h2).1;rw[this,<-h2] at h;simp at h]
    rfl
   ·rw[GS hok (by simpa using Eq.symm (by simpa using h)) fun q h1 h2=>(hq q h1 h2).1]
    rfl
 ·rw[bad he]
  cases he with
  | one =>
   simp only[go_sem];refine av UE rfl (.inl rfl) ?_;simp only[go_sem];refine bt (res:=.bool false) (fun h=>by cases h) rfl (fun h=>by cases h) (.inl rfl) ?_;simp only[go_sem];refine bt (res:=.str []) (fun h=>by cases h) rfl (fun h=>by cases h) (.inl rfl) ?_;simp only[go_sem];rfl
  | @join a b hab =>
   obtain⟨r,hj⟩:=EZ hab;rw[hj];simp only[iq];simp only[go_sem];refine av (UC (r:=r)) rfl (.inl rfl) ?_;simp only[go_sem];refine bt (res:=.bool false) (fun h=>by cases h) rfl (fun h=>by cases h) (.inl rfl) ?_;simp only[go_sem];refine bt (res:=.str []) (fun h=>by cases h) rfl (fun h=>by cases h) (.inl rfl) ?_;simp only[go_sem];rfl
end Go.D3
namespace Go.D3
open Go
set_option maxRecDepth 100000
theorem Er{fr to:List Int}:∀{l:List Int}{x:Int},bV fr.length l=false->bG fr to x l=none
 | [],x,h=>by cases h
 | e::l,x,h=>by
  rw[bG];split
  ·rename_i hc
   simp only[Bool.and_eq_true,aP,decide_eq_true_eq] at hc;refine Er ?_;unfold bV at h|-
   rw[List.all_cons,Bool.and_eq_false_iff] at h;rcases h with h | h
   ·simp at h;omega
   ·exact h
  ·rfl
def BW:List Nat:=[0,1,4,2,3,5,6]
def JU:Sl:=ak Go.Proofs.Tryz.types Go.Proofs.Tryz.f144 BW []
theorem R8:aF Go.Proofs.Tryz.prog Go.Proofs.Tryz.f144 BW JU 2=true:=by decide +kernel
theorem HX(s:aa)(p:U)(hto:s.to.length=s.fr.length)(hn : 0<=s.nd):aC Go.Proofs.Tryz.prog 144 [.v (aa.d s),.v (U.d p)] (.bool (s.aU p).isSome):=by
 refine ei fun hw=>?_
 simp only[dc,eW,aa.d,U.d,aa.cells,U.cells,D.du,gu,IntKind.has,IntKind.max,IntKind.signed,IntKind.bits] at hw;have hn2:s.nd<=9223372036854775807:=by simpa using hw.1.1.2
 have hl:p.ed.length<=maxLen:=hw.2.1.2.1.1;have hsub:IntKind.i64.wrap (s.nd-1)=s.nd-1:=iH ⟨by simp[IntKind.min,IntKind.signed,IntKind.bits];omega,by simp[IntKind.max,IntKind.signed,IntKind.bits];omega⟩;refine aQ Go.Proofs.Tryz.func144 R8 ?_;unfold JU ak BW;simp only[go_sem];rw[hsub];refine av (oA _ _ _) rfl (.inl rfl) ?_;simp only[go_sem]
 have he:(aP p.st 0 (s.nd-1)&&decide (p.ed.length<=6))=!(!aP p.st 0 (s.nd-1) || decide ((6:Int)<(p.ed.length:Int))):=by
  rw[Bool.not_or,Bool.not_not,<-decide_not];congr 1;exact decide_eq_decide.2 (by omega)
 refine⟨fun h=>by simpa using h,bt (fun _=>rO _ _) rfl (fun h=>h) (.inl rfl) ?_⟩;simp only[go_sem];refine⟨(fun h=>by simp only[Bool.or_eq_false_iff,Bool.and_eq_true,Bool.not_eq_true',Bool.not_eq_false'] at h|-;exact h),fun h=>?_,fun h=>?_⟩
 ·unfold aa.aU
  rw[he];rw[Bool.or_eq_true,Bool.not_eq_true'] at h;rcases h with h | h
  ·rw[h];rfl
  ·rw[Er h];simp
 ·rw[Bool.or_eq_false_iff,Bool.not_eq_false'] at h
  have hE:s.aU p=bG s.fr s.to p.st p.ed:=by unfold aa.aU;rw[he,h.1];rfl
  rw[hE];have hm:=fun i hi=>ew h.2 (i:=i) hi
  refine aE [] (fun(q:Nat×Int)=>[(5,.int .i64 q.2),(6,.int .i64 q.1)]) (fun q=>q.1<=p.ed.length/\bG s.fr s.to q.2 (p.ed.drop q.1)=bG s.fr s.to p.st p.ed) (fun q=>p.ed.length-q.1) (0,p.st) (by simp only[go_sem];rfl) ⟨Nat.zero_le _,rfl⟩ rfl ?_;rintro⟨i,y⟩ ⟨hi,ha⟩;simp only at hi ha;simp only[go_sem];refine⟨fun h2=>?_,fun h2=>?_⟩
  ·have hmi:=hm i h2
   rw[xn h2] at ha;have hin:aP (p.ed.getD i 0) 0 ((s.fr.length:Int)-1)=true:=by unfold aP;simp only[Bool.and_eq_true,decide_eq_true_eq];omega
   rw[hin,Bool.true_and] at ha;refine⟨h2,hmi,fun h3=>?_,fun h3=>⟨h2,by omega,(i+1,s.to.getD (p.ed.getD i 0).toNat 0),⟨h2,?_⟩,by show p.ed.length-(i+1)<p.ed.length-i;omega,by rw[aM h2 hl]⟩⟩
   ·rw[bne_iff_ne] at h3
    rw[if_neg (by rw[beq_iff_eq];exact h3)] at ha;rw[<-ha];rfl
   ·rw[bne_eq_false_iff_eq] at h3
    rw[if_pos (by rw[beq_iff_eq];exact h3)] at ha;exact ha
  ·rw[show i=p.ed.length by omega,List.drop_length] at ha
   rw[<-ha];rfl
theorem tq{fr to:List Int}:∀{l:List Int}{x y:Int},bG fr to x l=some y->y=(if l=[] then x else to.getD (l.getD (l.length-1) 0).toNat 0)/\∀i,i<l.length->0<=l.getD i 0/\l.getD i 0<fr.length
 | [],x,y,h=>by rw[bG] at h;injection h with h;subst h;exact⟨rfl,fun i hi=>by simp at hi⟩
 | e::l,x,y,h=>by
  rw[bG] at h;split at h
  ·rename_i hc
   simp only[Bool.and_eq_true,aP,decide_eq_true_eq] at hc;obtain⟨h1,h2⟩:=tq h;refine⟨?_,fun i hi=>?_⟩
   ·rw[if_neg (by simp),h1]
    cases l with
    | nil=>rfl
    | cons f l=>rw[if_neg (by simp)];rfl
   ·cases i with
    | zero=>exact⟨hc.1.1,by show e<_;omega⟩
    | succ i=>exact h2 i (by simpa using hi)
  ·cases h
def BS:List Nat:=[0,1,4,2,3]
def JQ:Sl:=ak Go.Proofs.Tryz.types Go.Proofs.Tryz.f117 BS []
theorem R4:aF Go.Proofs.Tryz.prog Go.Proofs.Tryz.f117 BS JQ 2=true:=by decide +kernel
theorem oB(s:aa)(p:U)(y:Int)(hto:s.to.length=s.fr.length)(h:s.aU p=some y):aC Go.Proofs.Tryz.prog 117 [.v (aa.d s),.v (U.d p)] (.int .i64 y):=by
 obtain⟨_,h6,hf⟩:=s8 h;obtain⟨hy,hr⟩:=tq hf;refine aQ Go.Proofs.Tryz.func117 R4 ?_;unfold JQ ak BS;simp only[go_sem];refine⟨fun h2=>?_,fun h2=>?_⟩
 ·rw[hy,if_pos (List.length_eq_zero_iff.1 (by simpa using h2))]
 ·have h2:p.ed.length≠0:=by simpa using h2
  have hne:¬p.ed=[]:=fun e=>h2 (by rw[e];rfl)
  rw[if_neg hne] at hy;rw[K6 (by simp only[maxLen];omega)];have e1:((p.ed.length:Int)-1).toNat=p.ed.length-1:=by omega
  have:=hr (p.ed.length-1) (by omega);rw[e1];exact⟨by omega,by omega,by rw[hy]⟩
def B1:List Nat:=[0,1,2,6,7]
def JZ:Sl:=ak Go.Proofs.Tryz.types Go.Proofs.Tryz.f129 B1 []
theorem Sh:aF Go.Proofs.Tryz.prog Go.Proofs.Tryz.f129 B1 JZ 3=true:=by decide +kernel
theorem H0(mp:List (List Int))(l:List Int)(r:Int)(hok:jD mp r l):aC Go.Proofs.Tryz.prog 129 [.v (aI mp),.v (ints l),.v (.int .i64 r)] (.int .i64 (iS mp r l)):=by
 refine ei fun hw=>?_
 simp only[dc,eW] at hw;have hl:l.length<=maxLen:=hw.2.1.1;refine aQ Go.Proofs.Tryz.func129 Sh ?_;unfold JZ ak B1;simp only[go_sem];refine aE [] (fun(p:Nat×Int)=>[(2,.int .i64 p.2),(4,.int .i64 p.1)]) (fun p=>p.1<=l.length/\iS mp p.2 (l.drop p.1)=iS mp r l/\jD mp p.2 (l.drop p.1)) (fun p=>l.length-p.1) (0,r) (by simp only[go_sem];rfl) ⟨Nat.zero_le _,rfl,hok⟩ rfl ?_;rintro⟨i,y⟩ ⟨hi,ha,hb⟩;simp only[go_sem];simp only at hi ha hb;refine⟨fun h=>?_,fun h=>?_⟩
 ·obtain⟨e1,e2⟩:=Fi (mp:=mp) (r:=y) h
  obtain⟨b1,b2,b3⟩:=e2 hb;exact⟨h,b1,b2,(i+1,(mp.getD (l.getD i 0).toNat []).getD y.toNat 0),⟨h,e1▸ha,b3⟩,by show l.length-(i+1)<l.length-i;omega,by rw[aM h hl]⟩
 ·rw[show i=l.length by omega,List.drop_length] at ha
  rw[<-ha];rfl
end Go.D3
