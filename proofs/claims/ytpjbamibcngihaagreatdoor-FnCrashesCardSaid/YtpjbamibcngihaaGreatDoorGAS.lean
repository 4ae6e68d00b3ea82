/- CONTRACTS: heads of journals, both sides. -/
import Derived.Test.YtpjbamibcngihaaGreatDoorGAR
namespace Go.D3
open Go
set_option maxHeartbeats 4000000
set_option maxRecDepth 100000
theorem index_none{c:UInt8}:∀{a:List UInt8},c ∉ a->Lib.index a [c]=-1
 | [],_=>rfl
 | x::a,h=>by
  have hx:x≠c:=fun hh=>h (by simp[hh])
  have:=index_none (c:=c) (a:=a) fun hh=>h (List.mem_cons_of_mem _ hh)
  have hp:([c]:List UInt8).isPrefixOf (x::a)=false:=by rw[pR];simpa using hx
  rw[Lib.index,hp,this];simp
theorem DL{c:UInt8}{a:List UInt8}(h:c ∉ a):Lib.cut a [c]=(a,[],false):=by
 unfold Lib.cut;rw[index_none h,if_neg (by decide)]
theorem ya{c:UInt8}{t:List UInt8}{i:Nat}(h:∀j,j<i->j<t.length->t.getD j 0≠c):c ∉ t.take i:=fun hm=>by
 obtain⟨j,hj,he⟩:=List.getElem_of_mem hm;rw[List.length_take] at hj;have:=h j (by omega) (by omega);rw[aS (by omega)] at this;rw[List.getElem_take] at he;exact this he
theorem nH{c:UInt8}{t:List UInt8}{i:Nat}(h:∀j,j<i->t.getD j 0≠c)(hi:i<t.length)(hc:t.getD i 0=c):Lib.cut t [c]=(t.take i,t.drop (i+1),true):=by
 have e:t=t.take i++c::t.drop (i+1):=by
  conv=>lhs;rw[<-List.take_append_drop i t]
  rw[drop_cons hi,hc]
 conv=>lhs;rw[e]
 exact qK (ya fun j hj _=>h j hj)
theorem qJ{c:UInt8}{t:List UInt8}(h:∀j,j<t.length->t.getD j 0≠c):Lib.cut t [c]=(t,[],false):=DL fun hm=>by
 have:=ya (c:=c) (t:=t) (i:=t.length) fun j hj _=>h j hj
 rw[List.take_of_length_le (Nat.le_refl _)] at this;exact this hm
theorem Mt{s sep:List UInt8}:(Lib.cut s sep).1.length<=s.length/\(Lib.cut s sep).2.1.length<=s.length:=by
 unfold Lib.cut;split
 ·exact⟨by simp only[List.length_take];omega,by simp only[List.length_drop];omega⟩
 ·exact⟨Nat.le_refl _,by simp⟩
def eR:List UInt8:=[115,99,104,101,109,97,32]
noncomputable def cL(t:List UInt8):Option (aa×Nat):=if((Lib.cut t [10]).2.2&&Lib.hasPrefix (Lib.cut t [10]).1 eR)=true then(eE ((Lib.cut t [10]).1.drop 7)).map fun s=>(s,(Lib.cut t [10]).1.length+1) else none
def vO(t:List UInt8)(rc:D)(gs:List D):Prop:=gs=[]/\∃(s:aa)(n:Int)(b:Bool),rc=.o (.au [aa.d s,.int .i64 n,.bool b])/\b=(cL t).isSome/\∀p,cL t=some p->s=p.1/\n=p.2
def AQ:List Nat:=[0,2,3,4,5,7,8,9,10,11]
def IP:Sl:=ak Go.Proofs.Tryz.types Go.Proofs.Tryz.f43 AQ []
theorem QV:aF Go.Proofs.Tryz.prog Go.Proofs.Tryz.f43 AQ IP 1=true:=by decide +kernel
theorem HF(t:List UInt8)(ht:t.length<=4294966000):bM Go.Proofs.Tryz.prog 43 [.str t] [] (vO t):=by
 refine dN .tree Go.Proofs.Tryz.func43 QV ?_;unfold IP ak AQ;simp only[go_sem];refine av (rL (by omega)) rfl (.inl rfl) ?_;have hcl:=(Mt (s:=t) (sep:=[10])).1;have hh:cL t=if((Lib.cut t [10]).2.2&&Lib.hasPrefix (Lib.cut t [10]).1 eR)=true then(eE ((Lib.cut t [10]).1.drop 7)).map fun s=>(s,(Lib.cut t [10]).1.length+1) else none:=rfl
 generalize Lib.cut t [10]=c at hcl hh;simp only[go_sem];refine av Hv rfl (.inl rfl) ?_;simp only[go_sem];have htl:(Lib.trimPrefix c.1 eR).length<=c.1.length:=by unfold Lib.trimPrefix;split<;>simp
 refine av (Ul (Lib.trimPrefix c.1 eR) (by omega)) rfl (.inl (GR _)) ?_;have ht7:Lib.hasPrefix c.1 eR=true->Lib.trimPrefix c.1 eR=c.1.drop 7:=fun h=>by unfold Lib.trimPrefix;rw[if_pos h];rfl
 cases hp:eE (Lib.trimPrefix c.1 eR) with
 | none =>
  simp only[kA];simp only[go_sem]
  have hF:cL t=none:=by
   rw[hh];split
   ·rename_i h
    rw[Bool.and_eq_true] at h;rw[<-ht7 h.2,hp];rfl
   ·rfl
  refine⟨_,_,⟨rfl,aa.zero,_,_,rfl,?_,fun p h=>by rw[hF] at h;cases h⟩,rfl,rfl,trivial⟩;rw[hF,show((6:Int) == 0)=false from rfl,Bool.and_false];rfl
 | some s =>
  simp only[kA];simp only[go_sem];rw[show((0:Int) == 0)=true from rfl,Bool.and_true]
  have hF:cL t=if(c.2.2&&Lib.hasPrefix c.1 eR)=true then some (s,c.1.length+1) else none:=by
   rw[hh];split
   ·rename_i h
    rw[Bool.and_eq_true] at h;rw[<-ht7 h.2,hp];rfl
   ·rfl
  refine⟨_,_,⟨rfl,s,_,_,rfl,?_,fun p h=>?_⟩,rfl,rfl,trivial⟩
  ·rw[hF]
   show(c.2.2&&Lib.hasPrefix c.1 eR)=_;split
   ·rename_i h;rw[h];rfl
   ·rename_i h;rw[Bool.not_eq_true] at h;rw[h];rfl
  ·rw[hF] at h
   split at h
   ·injection h with h
    rw[<-h,wrap_small (by omega) (by omega)];exact⟨rfl,rfl⟩
   ·cases h
def B9:List Nat:=[0,2,3,4,5,6,7]
def J7:Sl:=ak Go.Proofs.Tryz.types Go.Proofs.Tryz.f53 B9 []
theorem Sr:aF Go.Proofs.Tryz.prog Go.Proofs.Tryz.f53 B9 J7 1=true:=by decide +kernel
theorem Vh(t:List UInt8)(ht:t.length<=4294966000):bM Go.Proofs.Tryz.prog 53 [.str t] [] (vO t):=by
 have no:∀n:Int,cL t=none->vO t (.o (.au [aa.d aa.zero,.int .i64 n,.bool false])) []:=fun n h=>⟨rfl,aa.zero,n,false,rfl,by rw[h];rfl,fun p hp=>by rw[h] at hp;cases hp⟩
 refine dN .tree Go.Proofs.Tryz.func53 Sr ?_;unfold J7 ak B9;simp only[go_sem];refine aE [] (fun(i:Nat)=>[(4,.int .i64 i)]) (fun i=>i<=t.length/\∀j,j<i->t.getD j 0≠10) (fun i=>t.length-i) 0 (by simp only[go_sem];rfl) ⟨Nat.zero_le _,fun j hj=>absurd hj (Nat.not_lt_zero _)⟩ rfl ?_;rintro i ⟨hi,hno⟩;simp only[go_sem];have hb:=(t.getD i 0).toNat_lt;refine⟨fun h=>?_,fun h=>⟨(fun h1=>by rw[h1];rfl),(fun h1=>⟨h1,by decide,?_⟩),(fun h=>by simp only[Bool.or_eq_false_iff,Bool.and_eq_true,Bool.not_eq_true'] at h|-;exact h),fun h1=>⟨_,_,no 0 ?_,rfl,rfl,trivial⟩,fun h1=>?_⟩⟩
 ·simp only[Bool.and_eq_true,decide_eq_true_eq,bne_iff_ne,ne_eq] at h
  refine⟨i+1,⟨h.1,fun j hj hc=>?_⟩,by omega,by rw[wrap_small (by omega) (by omega)];rfl⟩;by_cases hji:j<i
  ·exact hno j hji hc
  ·rw[show j=i by omega] at hc
   exact h.2 (by rw[hc];rfl)
 ·simp only[Bool.and_eq_true,Bool.not_eq_true',decide_eq_false_iff_not] at h1
  omega
 ·unfold cL
  by_cases hit:i=t.length
  ·rw[qJ fun j hj=>hno j (by omega)];rfl
  ·simp only[Bool.and_eq_false_iff,decide_eq_false_iff_not,bne_eq_false_iff_eq] at h
   have hc:t.getD i 0=10:=UInt8.toNat_inj.1 (by show _=10;omega);rw[nH hno (by omega) hc,if_neg];intro hh;simp only[Bool.true_and] at hh;obtain⟨r,hr⟩:=List.isPrefixOf_iff_prefix.1 hh;have hl:(t.take i).length=i:=by rw[List.length_take];omega
   have h7 : 7<=i:=by rw[<-hl,<-hr,List.length_append];show 7<=7+_;omega
   have ht7:t.take 7=eR:=by
    have:(t.take i).take 7=eR:=by rw[<-hr];exact List.take_left' rfl
    rwa [List.take_take,Nat.min_eq_left h7] at this
   have e7:(Int.toNat 7)=7:=rfl;rw[e7,ht7] at h1;simp only[Bool.or_eq_true,beq_iff_eq,decide_eq_true_eq,Bool.not_eq_true',beq_eq_false_iff_ne,ne_eq] at h1;rcases h1 with(h1 | h1) | h1
   ·omega
   ·omega
   ·exact h1 rfl
 ·simp only[Bool.or_eq_false_iff,beq_eq_false_iff_ne,ne_eq,decide_eq_false_iff_not,Bool.not_eq_false',beq_iff_eq] at h1
  obtain⟨⟨h1,h7⟩,hs⟩:=h1;simp only[Bool.and_eq_false_iff,decide_eq_false_iff_not,bne_eq_false_iff_eq] at h;have hc:t.getD i 0=10:=UInt8.toNat_inj.1 (by show _=10;omega);have e7:(Int.toNat 7)=7:=rfl;rw[e7] at hs|-
  have hpre:Lib.hasPrefix (t.take i) eR=true:=by
   refine List.isPrefixOf_iff_prefix.2 ⟨(t.take i).drop 7,?_⟩;have:(t.take i).take 7=eR:=by rw[List.take_take,Nat.min_eq_left (by omega)];exact hs
   rw[<-this,List.take_append_drop]
  have hF:cL t=(eE ((t.take i).drop 7)).map fun s=>(s,i+1):=by
   unfold cL;rw[nH hno (by omega) hc,if_pos (by rw[hpre];rfl)];congr 1;funext s;show(s,(t.take i).length+1)=_;rw[List.length_take,Nat.min_eq_left hi]
  refine⟨by omega,av (HR ((t.take i).drop 7) (by rw[List.length_drop,List.length_take];omega)) rfl (.inl (GR _)) ?_⟩;cases hp:eE ((t.take i).drop 7) with
  | none =>
   rw[hp] at hF;simp only[kA];simp only[go_sem];exact⟨_,_,no _ hF,rfl,rfl,trivial⟩
  | some s =>
   rw[hp] at hF;simp only[kA];simp only[go_sem];refine⟨_,_,⟨rfl,s,_,_,rfl,by rw[hF];rfl,fun p h=>?_⟩,rfl,rfl,trivial⟩;rw[hF] at h;injection h with h
   rw[<-h,wrap_small (by omega) (by omega)];exact⟨rfl,rfl⟩
end Go.D3
