/- PLAIN LAWS: which transaction set a value last. -/
import Derived.Test.YtpnchponfnbmiaaGreatDoorGAW
import Derived.Test.YtpnchponfnbmiaaGreatDoorGAY
namespace Go.D3
open Go Proofs
set_option maxHeartbeats 4000000
set_option maxRecDepth 100000
def my(l:List (List UInt8)):Option (List Nat):=l.mapM (bz 9)
def eR(s:List UInt8):Option az:=match my ((aS [32] 0 s).drop 1) with
 | some [a]=>if(aS [32] 0 s).getD 0 []=[97,100,100] then some ⟨1,a,0,0⟩ else none
 | some [a,b,c]=>if(aS [32] 0 s).getD 0 []=[115,101,116] then some ⟨2,a,b,c⟩ else none
 | _=>none
def oU:Option az->D
 | some c=>.al [az.d c,.bool true]
 | none=>.al [az.d az.zero,.bool false]
theorem E2(o:Option az):(oU o).a7=true:=by cases o<;>rfl
theorem H5{l:List (List UInt8)}{i:Nat}{ns:List Nat}{n:Nat}(h:i<l.length)(h1:my (l.take i)=some ns)(h2:bz 9 (l.getD i [])=some n):my (l.take (i+1))=some (ns++[n]):=by
 unfold my at *;rw[bN h [],List.mapM_append,h1,List.mapM_cons,h2];rfl
theorem H3{l:List (List UInt8)}{i:Nat}(h:i<l.length)(h2:bz 9 (l.getD i [])=none):my l=none:=by
 unfold my;have e:l=l.take i++(l.getD i []::l.drop (i+1)):=by rw[aN h,<-List.drop_eq_getElem_cons h,List.take_append_drop]
 rw[e,List.mapM_append,List.mapM_cons,h2];cases(l.take i).mapM (bz 9)<;>rfl
theorem ME{p s:List UInt8} : 0<(aS p 0 s).length:=List.length_pos_iff.2 rK
def gE(l:List Nat):List Int:=l.map fun n:Nat=>(n:Int)
theorem E3{s:List UInt8}{ns:List Nat}(h:my ((aS [32] 0 s).drop 1)=some ns):eR s=if(aS [32] 0 s).getD 0 []=[97,100,100]/\ns.length=1 then some ⟨1,(gE ns).getD 0 0,0,0⟩ else if(aS [32] 0 s).getD 0 []=[115,101,116]/\ns.length=3 then some ⟨2,(gE ns).getD 0 0,(gE ns).getD 1 0,(gE ns).getD 2 0⟩ else none:=by
 unfold eR;rw[h]
 match ns with
 | []=>simp
 | [a]=>by_cases h1:(aS [32] 0 s).getD 0 []=[97,100,100]<;>simp[gE]
 | [a,b]=>simp
 | [a,b,c]=>by_cases h1:(aS [32] 0 s).getD 0 []=[115,101,116]<;>simp[gE]
 | a::b::c::d::r=>simp
def Cz:List Nat:=[0,2,3,4,5,7,8,9,14,15,16]
def KY:Sl:=ah Tryz.types Tryz.f168 Cz []
theorem Uq:aC Tryz.prog Tryz.f168 Cz KY 1=true:=by decide +kernel
theorem X9(s:List UInt8)(hs:s.length<=4294966000):aw Tryz.prog 168 [.v (.str s)] (oU (eR s)):=by
 refine aK Tryz.func168 Uq ?_;unfold KY ah Cz;simp only[go_sem];refine uQ (AT (by decide) (by omega)) rfl (.inl (kG _)) ?_;have hp:=ME (p:=[32]) (s:=s);have hl:=oC (p:=[32]) (k:=0) (s:=s);have hm:∀x∈aS [32] 0 s,x.length<=s.length:=fun x hx=>iF hx
 have hend:=@E3 s
 have hbad:∀i,i<((aS [32] 0 s).drop 1).length->bz 9 (((aS [32] 0 s).drop 1).getD i [])=none->eR s=none:=fun i h1 h2=>by
  unfold eR;rw[H3 h1 h2]
 generalize aS [32] 0 s=ws at hp hl hm hend hbad;simp only[go_sem];refine⟨⟨by decide,by omega,by omega⟩,?_⟩;rw[List.take_of_length_le (Nat.le_refl _)];have hvl:(ws.drop 1).length<=ws.length:=by rw[List.length_drop];omega
 have hvm:∀x∈ws.drop 1,x.length<=s.length:=fun x hx=>hm x (List.mem_of_mem_drop hx)
 generalize ws.drop 1=vs at hend hbad hvl hvm;refine aE [5,6,7] (fun(p:Nat×List Nat)=>[(4,.o (ints (gE p.2))),(10,.int .i64 p.1)]) (fun p=>p.1<=vs.length/\p.2.length=p.1/\my (vs.take p.1)=some p.2) (fun p=>vs.length-p.1) (0,[]) (by simp only[go_sem];rfl) ⟨Nat.zero_le _,rfl,rfl⟩ rfl ?_;rintro⟨i,ns⟩ ⟨hi,hln,hns⟩;simp only at hi hln hns;simp only[go_sem];have hil:(gE ns).length=ns.length:=by unfold gE;rw[List.length_map]
 refine⟨fun h=>⟨h,?_⟩,fun h=>?_⟩
 ·have hx:=hvm _ (Hz (d:=[]) h)
  refine an (X6 _ (by omega)) rfl (.inl rfl) ?_;cases hn:bz 9 (vs.getD i []) with
  | none =>
   rw[hbad i h hn];simp only[go_sem];exact⟨fun _=>rfl,fun h=>by cases h⟩
  | some n =>
   rw[Wk hn];simp only[go_sem];refine⟨fun h=>(by cases h),fun _=>⟨by omega,(i+1,ns++[n]),⟨h,by simp[hln],H5 h hns hn⟩,by show vs.length-(i+1)<_;omega,?_⟩⟩;rw[wrap_small (by omega) (by omega)];unfold gE;rw[List.map_append];rfl
 ·rw[List.take_of_length_le (by omega)] at hns
  have he:=hend hns;have e1:((gE ns).length:Int)=ns.length:=by rw[hil]
  refine⟨⟨by decide,by omega⟩,fun h1=>?_,fun h1=>⟨⟨by decide,by omega⟩,fun h2=>?_,fun h2=>?_⟩⟩
  ·simp only[Bool.and_eq_true,beq_iff_eq] at h1
   rw[he,if_pos ⟨h1.1,by omega⟩];exact⟨⟨by decide,by omega⟩,rfl⟩
  ·have h1:¬(ws.getD 0 []=[97,100,100]/\ns.length=1):=fun hh=>by
    rw[hh.1,e1,hh.2] at h1;cases h1
   simp only[Bool.and_eq_true,beq_iff_eq] at h2;rw[he,if_neg h1,if_pos ⟨h2.1,by omega⟩];exact⟨⟨by decide,by omega⟩,⟨by decide,by omega⟩,⟨by decide,by omega⟩,rfl⟩
  ·have h1:¬(ws.getD 0 []=[97,100,100]/\ns.length=1):=fun hh=>by
    rw[hh.1,e1,hh.2] at h1;cases h1
   have h2:¬(ws.getD 0 []=[115,101,116]/\ns.length=3):=fun hh=>by
    rw[hh.1,e1,hh.2] at h2;cases h2
   rw[he,if_neg h1,if_neg h2];rfl
def DK:List Nat:=[0,2,3,4,5,6,7]
def Mc:Sl:=ah Tryz.types Tryz.f98 DK []
theorem VC:aC Tryz.prog Tryz.f98 DK Mc 1=true:=by decide +kernel
theorem Y8(s:List UInt8)(hs:s.length<=4294966000):aw Tryz.prog 98 [.v (.str s)] (oU (eR s)):=by
 refine aK Tryz.func98 VC ?_;unfold Mc ah DK;simp only[go_sem];refine uQ (tM s 32 (by omega)) rfl (.inl (kG _)) ?_;have hp:=ME (p:=[32]) (s:=s);have hl:=oC (p:=[32]) (k:=0) (s:=s);have hm:∀x∈aS [32] 0 s,x.length<=s.length:=fun x hx=>iF hx
 have hend:=@E3 s
 have hbad:∀i,i<((aS [32] 0 s).drop 1).length->bz 9 (((aS [32] 0 s).drop 1).getD i [])=none->eR s=none:=fun i h1 h2=>by
  unfold eR;rw[H3 h1 h2]
 generalize aS [32] 0 s=ws at hp hl hm hend hbad;have hdl:(ws.drop 1).length+1=ws.length:=by rw[List.length_drop];omega
 have hdg:∀i,(ws.drop 1).getD i []=ws.getD (i+1) []:=fun i=>by rw[List.getD_eq_getElem?_getD,List.getElem?_drop,Nat.add_comm 1,<-List.getD_eq_getElem?_getD]
 simp only[go_sem];refine aE [6] (fun(p:Nat×List Nat)=>[(4,.o (ints (gE p.2))),(5,.int .i64 (p.1+1:Nat))]) (fun p=>p.1<=(ws.drop 1).length/\p.2.length=p.1/\my ((ws.drop 1).take p.1)=some p.2) (fun p=>(ws.drop 1).length-p.1) (0,[]) (by simp only[go_sem];rfl) ⟨Nat.zero_le _,rfl,rfl⟩ rfl ?_;rintro⟨i,ns⟩ ⟨hi,hln,hns⟩;simp only at hi hln hns;simp only[go_sem];have hil:(gE ns).length=ns.length:=by unfold gE;rw[List.length_map]
 refine⟨fun h=>⟨h,?_⟩,fun h=>?_⟩
 ·have hx:=hm _ (Hz (d:=[]) h)
  refine an (rH _) rfl (.inl (by cases bz 9 (ws.getD (i+1) [])<;>rfl)) ?_;cases hn:bz 9 (ws.getD (i+1) []) with
  | none =>
   rw[hbad i (by omega) (by rw[hdg];exact hn)];simp only[lP];simp only[go_sem];exact⟨fun _=>rfl,fun h=>absurd (by decide) h⟩
  | some n =>
   simp only[lP];simp only[go_sem];refine⟨fun h=>by omega,fun _=>⟨by omega,(i+1,ns++[n]),⟨by show i+1<=_;omega,by simp[hln],H5 (by omega) hns (by rw[hdg];exact hn)⟩,by show(ws.drop 1).length-(i+1)<_;omega,?_⟩⟩;rw[wrap_small (by omega) (by omega)];unfold gE;rw[List.map_append];rfl
 ·rw[List.take_of_length_le (by omega)] at hns
  have he:=hend hns;have e1:((gE ns).length:Int)=ns.length:=by rw[hil]
  refine⟨⟨by decide,by omega⟩,fun h1=>?_,fun h1=>⟨⟨by decide,by omega⟩,fun h2=>?_,fun h2=>?_⟩⟩
  ·simp only[Bool.and_eq_true,beq_iff_eq] at h1
   rw[he,if_pos ⟨h1.1,by omega⟩];exact⟨⟨by decide,by omega⟩,rfl⟩
  ·have h1:¬(ws.getD 0 []=[97,100,100]/\ns.length=1):=fun hh=>by
    rw[hh.1,e1,hh.2] at h1;cases h1
   simp only[Bool.and_eq_true,beq_iff_eq] at h2;rw[he,if_neg h1,if_pos ⟨h2.1,by omega⟩];exact⟨⟨by decide,by omega⟩,⟨by decide,by omega⟩,⟨by decide,by omega⟩,rfl⟩
  ·have h1:¬(ws.getD 0 []=[97,100,100]/\ns.length=1):=fun hh=>by
    rw[hh.1,e1,hh.2] at h1;cases h1
   have h2:¬(ws.getD 0 []=[115,101,116]/\ns.length=3):=fun hh=>by
    rw[hh.1,e1,hh.2] at h2;cases h2
   rw[he,if_neg h1,if_neg h2];rfl
end Go.D3
namespace Go.D3
open Go Proofs
set_option maxHeartbeats 4000000
set_option maxRecDepth 100000
theorem index_none{c:UInt8}:∀{a:List UInt8},c ∉ a->Lib.index a [c]=-1
 | [],_=>rfl
 | x::a,h=>by
  have hx:x≠c:=fun hh=>h (by simp[hh])
  have:=index_none (c:=c) (a:=a) fun hh=>h (List.mem_cons_of_mem _ hh)
  have hp:([c]:List UInt8).isPrefixOf (x::a)=false:=by rw[rz];simpa using hx
  rw[Lib.index,hp,this];simp
theorem Pc{c:UInt8}{a:List UInt8}(h:c ∉ a):Lib.cut a [c]=(a,[],false):=by
 unfold Lib.cut;rw[index_none h,if_neg (by decide)]
theorem HT{c:UInt8}{t:List UInt8}{i:Nat}(h:∀j,j<i->j<t.length->t.getD j 0≠c):c ∉ t.take i:=fun hm=>by
 obtain⟨j,hj,he⟩:=List.getElem_of_mem hm;rw[List.length_take] at hj;have:=h j (by omega) (by omega);rw[aN (by omega)] at this;rw[List.getElem_take] at he;exact this he
theorem uY{c:UInt8}{t:List UInt8}{i:Nat}(h:∀j,j<i->t.getD j 0≠c)(hi:i<t.length)(hc:t.getD i 0=c):Lib.cut t [c]=(t.take i,t.drop (i+1),true):=by
 have e:t=t.take i++c::t.drop (i+1):=by
  conv=>lhs;rw[<-List.take_append_drop i t]
  rw[drop_cons hi,hc]
 conv=>lhs;rw[e]
 exact yj (HT fun j hj _=>h j hj)
theorem yi{c:UInt8}{t:List UInt8}(h:∀j,j<t.length->t.getD j 0≠c):Lib.cut t [c]=(t,[],false):=Pc fun hm=>by
 have:=HT (c:=c) (t:=t) (i:=t.length) fun j hj _=>h j hj
 rw[List.take_of_length_le (Nat.le_refl _)] at this;exact this hm
theorem Pb{s sep:List UInt8}:(Lib.cut s sep).1.length<=s.length/\(Lib.cut s sep).2.1.length<=s.length:=by
 unfold Lib.cut;split
 ·exact⟨by simp only[List.length_take];omega,by simp only[List.length_drop];omega⟩
 ·exact⟨Nat.le_refl _,by simp⟩
def jh:List UInt8:=[115,99,104,101,109,97,32]
noncomputable def eU(t:List UInt8):Option (aa×Nat):=if((Lib.cut t [10]).2.2&&Lib.hasPrefix (Lib.cut t [10]).1 jh)=true then(gY ((Lib.cut t [10]).1.drop 7)).map fun s=>(s,(Lib.cut t [10]).1.length+1) else none
def xi(t:List UInt8)(rc:D)(gs:List D):Prop:=gs=[]/\∃(s:aa)(n:Int)(b:Bool),rc=.o (.al [aa.d s,.int .i64 n,.bool b])/\b=(eU t).isSome/\∀p,eU t=some p->s=p.1/\n=p.2
def Cr:List Nat:=[0,2,3,4,5,7,8,9,10,11]
def KQ:Sl:=ah Tryz.types Tryz.f132 Cr []
theorem Uh:aC Tryz.prog Tryz.f132 Cr KQ 1=true:=by decide +kernel
theorem X2(t:List UInt8)(ht:t.length<=4294966000):bK Tryz.prog 132 [.str t] [] (xi t):=by
 refine jc .tree Tryz.func132 Uh ?_;unfold KQ ah Cr;simp only[go_sem];refine an (tE (by omega)) rfl (.inl rfl) ?_;have hcl:=(Pb (s:=t) (sep:=[10])).1;have hh:eU t=if((Lib.cut t [10]).2.2&&Lib.hasPrefix (Lib.cut t [10]).1 jh)=true then(gY ((Lib.cut t [10]).1.drop 7)).map fun s=>(s,(Lib.cut t [10]).1.length+1) else none:=rfl
 generalize Lib.cut t [10]=c at hcl hh;simp only[go_sem];refine an Js rfl (.inl rfl) ?_;simp only[go_sem];have htl:(Lib.trimPrefix c.1 jh).length<=c.1.length:=by unfold Lib.trimPrefix;split<;>simp
 refine an (XG (Lib.trimPrefix c.1 jh) (by omega)) rfl (.inl (IS _)) ?_;have ht7:Lib.hasPrefix c.1 jh=true->Lib.trimPrefix c.1 jh=c.1.drop 7:=fun h=>by unfold Lib.trimPrefix;rw[if_pos h];rfl
 cases hp:gY (Lib.trimPrefix c.1 jh) with
 | none =>
  simp only[mN];simp only[go_sem]
  have hF:eU t=none:=by
   rw[hh];split
   ·rename_i h
    rw[Bool.and_eq_true] at h;rw[<-ht7 h.2,hp];rfl
   ·rfl
  refine⟨_,_,⟨rfl,aa.zero,_,_,rfl,?_,fun p h=>by rw[hF] at h;cases h⟩,rfl,rfl,trivial⟩;rw[hF,show((6:Int) == 0)=false from rfl,Bool.and_false];rfl
 | some s =>
  simp only[mN];simp only[go_sem];rw[show((0:Int) == 0)=true from rfl,Bool.and_true]
  have hF:eU t=if(c.2.2&&Lib.hasPrefix c.1 jh)=true then some (s,c.1.length+1) else none:=by
   rw[hh];split
   ·rename_i h
    rw[Bool.and_eq_true] at h;rw[<-ht7 h.2,hp];rfl
   ·rfl
  refine⟨_,_,⟨rfl,s,_,_,rfl,?_,fun p h=>?_⟩,rfl,rfl,trivial⟩
  ·rw[hF]
   show(c.2.2&&Lib.hasPrefix c.1 jh)=_;split
   ·rename_i h;rw[h];rfl
   ·rename_i h;rw[Bool.not_eq_true] at h;rw[h];rfl
  ·rw[hF] at h
   split at h
   ·injection h with h
    rw[<-h,wrap_small (by omega) (by omega)];exact⟨rfl,rfl⟩
   ·cases h
def DH:List Nat:=[0,2,3,4,5,6,7]
def L9:Sl:=ah Tryz.types Tryz.f93 DH []
theorem Vz:aC Tryz.prog Tryz.f93 DH L9 1=true:=by decide +kernel
theorem Y6(t:List UInt8)(ht:t.length<=4294966000):bK Tryz.prog 93 [.str t] [] (xi t):=by
 have no:∀n:Int,eU t=none->xi t (.o (.al [aa.d aa.zero,.int .i64 n,.bool false])) []:=fun n h=>⟨rfl,aa.zero,n,false,rfl,by rw[h];rfl,fun p hp=>by rw[h] at hp;cases hp⟩
 refine jc .tree Tryz.func93 Vz ?_;unfold L9 ah DH;simp only[go_sem];refine aE [] (fun(i:Nat)=>[(4,.int .i64 i)]) (fun i=>i<=t.length/\∀j,j<i->t.getD j 0≠10) (fun i=>t.length-i) 0 (by simp only[go_sem];rfl) ⟨Nat.zero_le _,fun j hj=>absurd hj (Nat.not_lt_zero _)⟩ rfl ?_;rintro i ⟨hi,hno⟩;simp only[go_sem];have hb:=(t.getD i 0).toNat_lt;refine⟨fun h=>?_,fun h=>⟨(fun h1=>by rw[h1];rfl),(fun h1=>⟨h1,by decide,?_⟩),(fun h=>by simp only[Bool.or_eq_false_iff,Bool.and_eq_true,Bool.not_eq_true'] at h|-;exact h),fun h1=>⟨_,_,no 0 ?_,rfl,rfl,trivial⟩,fun h1=>?_⟩⟩
 ·simp only[Bool.and_eq_true,decide_eq_true_eq,bne_iff_ne,ne_eq] at h
  refine⟨i+1,⟨h.1,fun j hj hc=>?_⟩,by omega,by rw[wrap_small (by omega) (by omega)];rfl⟩;by_cases hji:j<i
  ·exact hno j hji hc
  ·rw[show j=i by omega] at hc
   exact h.2 (by rw[hc];rfl)
 ·simp only[Bool.and_eq_true,Bool.not_eq_true',decide_eq_false_iff_not] at h1
  omega
 ·unfold eU
  by_cases hit:i=t.length
  ·rw[yi fun j hj=>hno j (by omega)];rfl
  ·simp only[Bool.and_eq_false_iff,decide_eq_false_iff_not,bne_eq_false_iff_eq] at h
   have hc:t.getD i 0=10:=UInt8.toNat_inj.1 (by show _=10;omega);rw[uY hno (by omega) hc,if_neg];intro hh;simp only[Bool.true_and] at hh;obtain⟨r,hr⟩:=List.isPrefixOf_iff_prefix.1 hh;have hl:(t.take i).length=i:=by rw[List.length_take];omega
   have h7 : 7<=i:=by rw[<-hl,<-hr,List.length_append];show 7<=7+_;omega
   have ht7:t.take 7=jh:=by
    have:(t.take i).take 7=jh:=by rw[<-hr];exact List.take_left' rfl
    rwa [List.take_take,Nat.min_eq_left h7] at this
   have e7:(Int.toNat 7)=7:=rfl;rw[e7,ht7] at h1;simp only[Bool.or_eq_true,beq_iff_eq,decide_eq_true_eq,Bool.not_eq_true',beq_eq_false_iff_ne,ne_eq] at h1;rcases h1 with(h1 | h1) | h1
   ·omega
   ·omega
   ·exact h1 rfl
 ·simp only[Bool.or_eq_false_iff,beq_eq_false_iff_ne,ne_eq,decide_eq_false_iff_not,Bool.not_eq_false',beq_iff_eq] at h1
  obtain⟨⟨h1,h7⟩,hs⟩:=h1;simp only[Bool.and_eq_false_iff,decide_eq_false_iff_not,bne_eq_false_iff_eq] at h;have hc:t.getD i 0=10:=UInt8.toNat_inj.1 (by show _=10;omega);have e7:(Int.toNat 7)=7:=rfl;rw[e7] at hs|-
  have hpre:Lib.hasPrefix (t.take i) jh=true:=by
   refine List.isPrefixOf_iff_prefix.2 ⟨(t.take i).drop 7,?_⟩;have:(t.take i).take 7=jh:=by rw[List.take_take,Nat.min_eq_left (by omega)];exact hs
   rw[<-this,List.take_append_drop]
  have hF:eU t=(gY ((t.take i).drop 7)).map fun s=>(s,i+1):=by
   unfold eU;rw[uY hno (by omega) hc,if_pos (by rw[hpre];rfl)];congr 1;funext s;show(s,(t.take i).length+1)=_;rw[List.length_take,Nat.min_eq_left hi]
  refine⟨by omega,an (YG ((t.take i).drop 7) (by rw[List.length_drop,List.length_take];omega)) rfl (.inl (IS _)) ?_⟩;cases hp:gY ((t.take i).drop 7) with
  | none =>
   rw[hp] at hF;simp only[mN];simp only[go_sem];exact⟨_,_,no _ hF,rfl,rfl,trivial⟩
  | some s =>
   rw[hp] at hF;simp only[mN];simp only[go_sem];refine⟨_,_,⟨rfl,s,_,_,rfl,by rw[hF];rfl,fun p h=>?_⟩,rfl,rfl,trivial⟩;rw[hF] at h;injection h with h
   rw[<-h,wrap_small (by omega) (by omega)];exact⟨rfl,rfl⟩
end Go.D3
namespace Go.D3
open Go Proofs
set_option maxHeartbeats 4000000
set_option maxRecDepth 100000
def dW:Option ak->D
 | some d=>.agg [.vw (ints d.sz),.vw (aF d.mp)]
 | none=>.agg [ints [],aF []]
def si(s:aa)(l:List az):Option ak->D
 | some d=>.o (.al [dW (some d),.bool (decide (l.length<=40)&&d.fJ s)])
 | none=>.o (.al [dW none,.bool false])
def DD:List Nat:=[0,1,2,6,7,3,4,8,9,10]
def L5:Sl:=ah Tryz.types Tryz.f97 DD [(0,122),(11,4)]
theorem Vv:aC Tryz.prog Tryz.f97 DD L5 3=true:=by decide +kernel
theorem Y2(s:aa)(d:ak)(l:List az)(h:s.ok=true)(hd:dH s d)(hl:l.length<=4294966000):fK Tryz.prog 97 [aa.d s,ak.d d,.sub 0 []] [.o (ae az.d az.zero l)] (si s l (ak.all s d l)) [.o (ae az.d az.zero l)]:=by
 have hs:=gw (fj h).1;refine rC .tree Tryz.func97 Vv ?_;unfold L5 ah DD;simp only[go_sem];refine aE [8,9] (fun(p:Nat×ak)=>[(6,.box [ints p.2.sz,aF p.2.mp]),(7,.int .i64 p.1)]) (fun p=>p.1<=l.length/\ak.all s p.2 (l.drop p.1)=ak.all s d l/\dH s p.2) (fun p=>l.length-p.1) (0,d) (by simp only[go_sem];rfl) ⟨Nat.zero_le _,rfl,hd⟩ rfl ?_;rintro⟨i,e⟩ ⟨hi,ha,he⟩;simp only at hi ha he;simp only[go_sem];have hV:=aw.view (xs:=[aa.d s,ak.d e,az.d (l.getD i az.zero)]) (by decide +kernel) (fun x hx=>by simp at hx;rcases hx with rfl | rfl | rfl<;>simp only[aa.d,aa.cells,ak.d,ak.cells,az.d,az.cells,D.refs,bH,Ho,and_self]) (by split<;>rfl) (Y3 s e (l.getD i az.zero) hs he);refine⟨fun h2=>⟨⟨⟨h2,h2,?_⟩,h2,h2,?_⟩,⟨h2,h2,?_⟩,h2,h2,?_⟩,fun h2=>?_⟩
 iterate 4
  ·rw[Ed h2] at ha
   refine jB [] false hV ?_;have hstep:=fun hc=>he.app (c:=l.getD i az.zero) hs hc
   cases hc:e.can s (l.getD i az.zero) with
   | false =>
    rw[hc,if_neg (by simp)] at ha;rw[<-ha,if_neg (by simp)];simp only[si,dW];simp only[go_sem]
    all_goals rfl
   | true =>
    rw[hc,if_pos rfl] at ha;rw[if_pos rfl];have:=hstep hc;generalize e.app s (l.getD i az.zero)=e' at ha this;simp only[go_sem];exact⟨(i+1,e'),⟨h2,ha,this⟩,by show l.length-(i+1)<l.length-i;omega,by rw[wrap_small (by omega) (by omega)];rfl⟩
 rw[show i=l.length by omega,List.drop_length] at ha;rw[<-ha];have h40:decide ((l.length:Int)<=40)=decide (l.length<=40):=decide_eq_decide.2 (by omega);refine⟨bu (fun _=>JT s e h he) rfl (fun h=>h) (.inl rfl) ?_,bu (fun _=>JT s e h he) rfl (fun h=>h) (.inl rfl) ?_⟩
 all_goals(
  simp only[go_sem,si,dW,ak.all]
  rw[h40])
end Go.D3
namespace Go.D3
open Go
def fD(t:List UInt8)(a:Nat):Option (List UInt8):=if(Lib.cut (t.drop a) [10]).2.2=true then some (Lib.cut (t.drop a) [10]).1 else none
theorem HJ{t:List UInt8}{a:Nat}:(∃i,a<=i/\i<t.length/\t.getD i 0=10/\∀j,a<=j->j<i->t.getD j 0≠10)\/∀j,a<=j->j<t.length->t.getD j 0≠10:=by
 by_cases h:∃i,a<=i/\i<t.length/\t.getD i 0=10
 ·refine .inl ?_
  obtain⟨i,hi⟩:=h;induction i using Nat.strongRecOn with
  | _ i ih =>
   by_cases hj:∃j,a<=j/\j<i/\t.getD j 0=10
   ·obtain⟨j,h1,h2,h3⟩:=hj
    exact ih j h2 ⟨h1,by omega,h3⟩
   ·exact⟨i,hi.1,hi.2.1,hi.2.2,fun j h1 h2 h3=>hj ⟨j,h1,h2,h3⟩⟩
 ·exact .inr fun j h1 h2 h3=>h ⟨j,h1,h2,h3⟩
theorem yK{t:List UInt8}{a j:Nat}:(t.drop a).getD j 0=t.getD (a+j) 0:=by rw[List.getD_eq_getElem?_getD,List.getElem?_drop,<-List.getD_eq_getElem?_getD]
theorem O9{t:List UInt8}{a i:Nat}(ha:a<=i)(hi:i<t.length)(hc:t.getD i 0=10)(h:∀j,a<=j->j<i->t.getD j 0≠10):Lib.cut (t.drop a) [10]=((t.take i).drop a,t.drop (i+1),true):=by
 rw[uY (i:=i-a) (fun j hj=>by rw[yK];exact h _ (by omega) (by omega)) (by rw[List.length_drop];omega) (by rw[yK,show a+(i-a)=i by omega];exact hc),List.drop_drop,show a+(i-a+1)=i+1 by omega,List.drop_take]
theorem He{t:List UInt8}{a i:Nat}(ha:a<=i)(hi:i<t.length)(hc:t.getD i 0=10)(h:∀j,a<=j->j<i->t.getD j 0≠10):fD t a=some ((t.take i).drop a):=by
 unfold fD;rw[O9 ha hi hc h];rfl
theorem Hd{t:List UInt8}{a:Nat}(h:∀j,a<=j->j<t.length->t.getD j 0≠10):fD t a=none:=by
 unfold fD;rw[yi fun j hj=>by rw[List.length_drop] at hj;rw[yK];exact h _ (by omega) (by omega)];rfl
theorem kC{t:List UInt8}{a:Nat}{l:List UInt8}(h:fD t a=some l):a+l.length<t.length:=by
 rcases HJ (t:=t) (a:=a) with⟨i,h1,h2,h3,h4⟩ | hn
 ·rw[He h1 h2 h3 h4] at h
  injection h with h
  rw[<-h,List.length_drop,List.length_take];omega
 ·rw[Hd hn] at h;cases h
def lO(t:List UInt8)(a:Nat)(cs:List az):Option (List az×Nat) :=
 match _h:fD t a with
 | none=>none
 | some l=>if l=j9 (t.take a) then some (cs,a+l.length+1) else match eR l with
  | some c=>if cs.length=40 then none else lO t (a+l.length+1) (cs++[c])
  | none=>none
termination_by t.length-a
decreasing_by have:=kC (by assumption);omega
structure Hs where
 dt:List ak
 tx:List (List az)
 gd:Nat
def Hs.last(H:Hs):ak:=H.dt.getD (H.dt.length-1) ak.zero
def Hs.push(H:Hs)(d:ak)(l:List az)(e:Nat):Hs:=⟨H.dt++[d],H.tx++[l],e⟩
def fB(s:aa)(d:ak)(l:List az):Option ak:=(ak.all s d l).bind fun e=>if(decide (l.length<=40)&&e.fJ s)=true then some e else none
def e8(s:aa)(t:List UInt8)(a:Nat)(cs:List az)(H:Hs):Hs :=
 match _h:fD t a with
 | none=>H
 | some l=>if l=j9 (t.take a) then(match fB s H.last cs with
   | some d=>e8 s t (a+l.length+1) [] (H.push d cs (a+l.length+1))
   | none=>H) else match eR l with
  | some c=>if cs.length=40 then H else e8 s t (a+l.length+1) (cs++[c]) H
  | none=>H
termination_by t.length-a
decreasing_by all_goals have:=kC (by assumption);omega
theorem ug{t:List UInt8}{a:Nat}{cs:List az}:lO t a cs=(fD t a).bind fun l=>if l=j9 (t.take a) then some (cs,a+l.length+1) else(eR l).bind fun c=>if cs.length=40 then none else lO t (a+l.length+1) (cs++[c]):=by
 rw[lO];split
 ·rename_i h;rw[h];rfl
 ·rename_i l h
  rw[h,Option.bind_some];congr 1;cases eR l<;>rfl
theorem mS{s:aa}{t:List UInt8}{a:Nat}{cs:List az}{H:Hs}:e8 s t a cs H=match fD t a with
  | none=>H
  | some l=>if l=j9 (t.take a) then(match fB s H.last cs with
   | some d=>e8 s t (a+l.length+1) [] (H.push d cs (a+l.length+1))
   | none=>H) else match eR l with
   | some c=>if cs.length=40 then H else e8 s t (a+l.length+1) (cs++[c]) H
   | none=>H:=by
 conv=>lhs;rw[e8]
 split
 ·rename_i h;rw[h]
 ·rename_i l h;rw[h]
theorem Zp{s:aa}{t:List UInt8}{H:Hs}:∀(k a:Nat)(cs:List az),t.length-a<=k->e8 s t a cs H=match lO t a cs with
  | none=>H
  | some (l,e)=>match fB s H.last l with
   | some d=>e8 s t e [] (H.push d l e)
   | none=>H:=by
 intro k;induction k with
 | zero =>
  intro a cs h;rw[mS,ug];cases hl:fD t a with
  | none=>rfl
  | some l=>have:=kC hl;omega
 | succ k ih =>
  intro a cs h;rw[mS,ug];cases hl:fD t a with
  | none=>rfl
  | some l =>
   have:=kC hl;rw[Option.bind_some];by_cases he:l=j9 (t.take a)
   ·simp only[if_pos he]
   ·simp only[if_neg he]
    cases hc:eR l with
    | none=>rfl
    | some c =>
     simp only[Option.bind_some];by_cases h40:cs.length=40
     ·rw[if_pos h40,if_pos h40]
     ·rw[if_neg h40,if_neg h40,ih _ _ (by omega)]
theorem aaY{t:List UInt8}:∀(k a:Nat)(cs:List az),t.length-a<=k->cs.length<=40->∀l e,lO t a cs=some (l,e)->l.length<=40/\a+6<=e/\e<=t.length:=by
 intro k;induction k with
 | zero =>
  intro a cs h _ l e he;rw[ug] at he;cases hl:fD t a with
  | none=>rw[hl] at he;cases he
  | some l=>have:=kC hl;omega
 | succ k ih =>
  intro a cs h h40 l e he;rw[ug] at he;cases hl:fD t a with
  | none=>rw[hl] at he;cases he
  | some ln =>
   have:=kC hl;rw[hl,Option.bind_some] at he;split at he
   ·rename_i hx
    simp only[Option.some.injEq,Prod.mk.injEq] at he;obtain⟨rfl,rfl⟩:=he
    have hp : 5<=ln.length:=by
     rw[hx];have:=(vv (uT (t:=t.take a)).1).2;have:=List.length_pos_iff.2 this;unfold j9;simp only[List.length_append,List.length_cons,List.length_nil];omega
    exact⟨h40,by omega,by omega⟩
   ·cases hc:eR ln with
    | none=>rw[hc] at he;cases he
    | some c =>
     rw[hc,Option.bind_some] at he;split at he
     ·cases he
     ·rename_i hn
      have:=ih _ _ (by omega) (by rw[List.length_append];simp;omega) l e he;omega
end Go.D3
namespace Go.D3
open Go Proofs
set_option maxHeartbeats 4000000
set_option maxRecDepth 100000
def ue:Option (List az×Nat)->D
 | some (l,e)=>.al [ae az.d az.zero l,.int .i64 e,.bool true]
 | none=>.al [ae az.d az.zero [],.int .i64 0,.bool false]
theorem aaX(o:Option (List az×Nat)):(ue o).a7=true:=by
 cases o<;>simp only[ue,D.a7,db,kF H8,Bool.and_self]
def Cs:List Nat:=[0,1,4,5,6,7,8,10,11,12]
def KR:Sl:=ah Tryz.types Tryz.f134 Cs []
theorem Uj:aC Tryz.prog Tryz.f134 Cs KR 2=true:=by decide +kernel
theorem X4(t:List UInt8)(a0:Nat)(ht:t.length<=4294966000)(ha0:a0<=t.length):aw Tryz.prog 134 [.v (.str t),.v (.int .i64 a0)] (ue (lO t a0 [])):=by
 refine aK Tryz.func134 Uj ?_;unfold KR ah Cs;simp only[go_sem];refine aE [6,7,8,9] (fun(p:Nat×List az)=>[(1,.int .i64 p.1),(5,.o (ae az.d az.zero p.2))]) (fun p=>p.1<=t.length/\p.2.length<=40/\lO t p.1 p.2=lO t a0 []) (fun p=>t.length-p.1) (a0,[]) (by simp only[go_sem];rfl) ⟨ha0,Nat.zero_le _,rfl⟩ rfl ?_;rintro⟨a,cs⟩ ⟨ha,h40,hx⟩;simp only at ha h40 hx;rw[<-hx];rw[ug] at hx|-
 simp only[go_sem];refine⟨⟨ha,Nat.le_refl _⟩,?_⟩;rw[List.take_of_length_le (Nat.le_refl _)];refine an (tE (by rw[List.length_drop];omega)) rfl (.inl rfl) ?_;have hla:fD t a=if(Lib.cut (t.drop a) [10]).2.2=true then some (Lib.cut (t.drop a) [10]).1 else none:=rfl
 generalize Lib.cut (t.drop a) [10]=c at hla;simp only[go_sem];refine⟨fun h=>?_,fun h=>⟨⟨by omega,by omega⟩,?_⟩⟩
 ·have h:c.2.2=false:=by simpa using h
  rw[hla,if_neg (by rw[h];decide)];rfl
 ·have h:c.2.2=true:=by simpa using h
  rw[if_pos h] at hla;have hlt:=kC hla;rw[hla,Option.bind_some] at hx|-
  refine an (XQ _) rfl (.inl rfl) ?_;simp only[go_sem];refine an rG rfl (.inl rfl) ?_;simp only[go_sem];have hk:=uT (t:=t.take a);have:=iS hk.1 (by omega);have hend:j9 (t.take a)=101::110::100::32::Lib.itoa (gi 7 (t.take a)):=rfl;refine⟨by simp only[maxLen];omega,fun h1=>?_,fun h1=>?_⟩
  ·rw[if_pos (by rw[hend];exact h1),wrap_small (n:=(a:Int)+c.1.length) (by omega) (by omega),wrap_small (by omega) (by omega)]
   rfl
  ·have hne:¬c.1=j9 (t.take a):=by rw[hend];simpa using h1
   rw[if_neg hne] at hx|-
   refine an (X9 c.1 (by omega)) rfl (.inl (E2 _)) ?_;cases hc:eR c.1 with
   | none =>
    simp only[oU];simp only[go_sem];rfl
   | some x =>
    rw[hc,Option.bind_some] at hx;simp only[oU];simp only[go_sem];refine⟨fun h2=>by rw[if_pos (by omega)];rfl,fun h2=>⟨by omega,(a+c.1.length+1,cs++[x]),⟨by show a+c.1.length+1<=_;omega,?_,?_⟩,by show t.length-(a+c.1.length+1)<_;omega,?_⟩⟩
    all_goals have h2:cs.length≠40:=by rintro h3;rw[h3] at h2;cases h2
    ·show(cs++[x]).length<=40
     simp only[List.length_append,List.length_cons,List.length_nil];omega
    ·rw[if_neg h2]
    ·rw[wrap_small (n:=(c.1.length:Int)+1) (by omega) (by omega),wrap_small (by omega) (by omega)]
     show _=[_,D.int .i64 ((a+c.1.length+1:Nat):Int),_,_,_,_,_,_,_,_];rw[show(a:Int)+((c.1.length:Int)+1)=((a+c.1.length+1:Nat):Int) by omega]
end Go.D3
namespace Go.D3
open Go
theorem Ef{s:aa}(hs:di s):∀{l:List az}{d e:ak},dH s d->ak.all s d l=some e->dH s e
 | [],d,e,h,ha=>by cases ha;exact h
 | c::l,d,e,h,ha=>by
  rw[ak.all] at ha;split at ha
  ·rename_i hc
   exact Ef hs (h.app hs hc) ha
  ·cases ha
theorem yM{s:aa}{d e:ak}{l:List az}(h:fB s d l=some e):ak.all s d l=some e/\l.length<=40/\e.fJ s=true:=by
 unfold fB at h;rw[Option.bind_eq_some_iff] at h;obtain⟨x,h1,h2⟩:=h;split at h2
 ·rename_i hc
  injection h2 with h2
  subst h2;rw[Bool.and_eq_true,decide_eq_true_eq] at hc;exact⟨h1,hc⟩
 ·cases h2
def dL(s:aa):ak:=⟨List.replicate s.nd.toNat 0,List.replicate s.fr.length []⟩
theorem rF{α:Type}{n i:Nat}{x:α}:(List.replicate n x).getD i x=x:=by
 rw[List.getD_eq_getElem?_getD,List.getElem?_replicate];split<;>rfl
theorem HK{s:aa}(hs:di s):dH s (dL s):=by
 have h0:=hs.n0;refine⟨?_,?_,fun i _=>?_,fun e _=>?_,fun e i _ hi=>?_⟩
 ·simp only[dL,List.length_replicate];omega
 ·simp only[dL,List.length_replicate]
 ·simp only[dL,rF];omega
 ·simp only[dL,rF];rfl
 ·simp only[dL,rF] at hi;exact absurd hi (Nat.not_lt_zero _)
def ak.nn(d:ak):Prop:=∀e i,e<d.mp.length->i<(d.mp.getD e []).length->0<=(d.mp.getD e []).getD i 0
theorem S6{s:aa}:(dL s).nn:=fun e i _ hi=>by
 simp only[dL,rF] at hi;exact absurd hi (Nat.not_lt_zero _)
theorem abl{s:aa}{d:ak}(h:d.fJ s=true):d.nn:=fun e i he hi=>by
 unfold ak.fJ at h;rw[Bool.and_eq_true] at h;have hr:=(ow h.1).2.2.2 e he;exact(eM hr.2 hi).1
structure jq(s:aa)(t:List UInt8)(H:Hs):Prop where
 dl:H.dt.length=H.tx.length+1
 Fv:∀d∈H.dt,dH s d
 nn:∀d∈H.dt,d.nn
 tl:∀l∈H.tx,l.length<=40
 t6 : 6*H.tx.length<=H.gd
 gl:H.gd<=t.length
theorem jq.last{s:aa}{t:List UInt8}{H:Hs}(h:jq s t H):dH s H.last:=by
 have:=h.dl;refine h.Fv _ ?_;unfold Hs.last;rw[aN (by omega)];exact List.getElem_mem _
theorem jq.push{s:aa}{t:List UInt8}{H:Hs}{d:ak}{l:List az}{e:Nat}(hs:di s)(h:jq s t H)(hg:fB s H.last l=some d)(h6:H.gd+6<=e)(he:e<=t.length):jq s t (H.push d l e):=by
 obtain⟨g1,g2,g3⟩:=yM hg;have h1:=h.t6;refine⟨?_,fun x hx=>?_,fun x hx=>?_,fun x hx=>?_,?_,he⟩
 ·have:=h.dl
  simp only[Hs.push,List.length_append,List.length_cons,List.length_nil];omega
 ·rcases List.mem_append.1 hx with hx | hx
  ·exact h.Fv x hx
  ·rw[List.mem_singleton] at hx
   subst hx;exact Ef hs h.last g1
 ·rcases List.mem_append.1 hx with hx | hx
  ·exact h.nn x hx
  ·rw[List.mem_singleton] at hx
   subst hx;exact abl g3
 ·rcases List.mem_append.1 hx with hx | hx
  ·exact h.tl x hx
  ·rw[List.mem_singleton] at hx
   subst hx;exact g2
 ·show 6*(H.tx++[l]).length<=e
  simp only[List.length_append,List.length_cons,List.length_nil];omega
theorem FH{x:List UInt8} : 5<=(j9 x).length:=by
 have:=(vv (uT (t:=x)).1).2;have:=List.length_pos_iff.2 this;unfold j9;simp only[List.length_append,List.length_cons,List.length_nil];omega
theorem Zo{s:aa}{t:List UInt8}(hs:di s):∀(k a:Nat)(cs:List az)(H:Hs),t.length-a<=k->jq s t H->H.gd<=a->jq s t (e8 s t a cs H):=by
 intro k;induction k with
 | zero =>
  intro a cs H hk h _;rw[mS];cases hl:fD t a with
  | none=>exact h
  | some l=>have:=kC hl;omega
 | succ k ih =>
  intro a cs H hk h hg;rw[mS];cases hl:fD t a with
  | none=>exact h
  | some l =>
   have h1:=kC hl;dsimp only;split
   ·rename_i he
    have h5:=FH (x:=t.take a);rw[<-he] at h5;cases hgo:fB s H.last cs with
    | none=>exact h
    | some d=>exact ih _ _ _ (by omega) (h.push hs hgo (by omega) (by omega)) (Nat.le_refl _)
   ·cases eR l with
    | none=>exact h
    | some c =>
     dsimp only;split
     ·exact h
     ·exact ih _ _ _ (by omega) h (by omega)
theorem yO{t:List UInt8}{p:aa×Nat}(h:eU t=some p):p.1.ok=true/\p.2<=t.length:=by
 unfold eU at h;split at h
 ·rename_i hc
  rw[Option.map_eq_some_iff] at h;obtain⟨s,h1,rfl⟩:=h;refine⟨(Wy h1).1,?_⟩;rcases HJ (t:=t) (a:=0) with⟨i,h1,h2,h3,h4⟩ | hn
  ·rw[uY (fun j hj=>h4 j (Nat.zero_le _) hj) h2 h3]
   show(t.take i).length+1<=_;rw[List.length_take];omega
  ·rw[yi fun j hj=>hn j (Nat.zero_le _) hj] at hc
   cases hc
 ·cases h
noncomputable def de(t:List UInt8):Option (aa×Hs):=(eU t).map fun p=>(p.1,e8 p.1 t p.2 [] ⟨[dL p.1],[],p.2⟩)
theorem yS{t:List UInt8}{s:aa}{n:Nat}(hs:di s)(hn:n<=t.length):jq s t ⟨[dL s],[],n⟩:=by
 refine⟨rfl,fun d hd=>?_,fun d hd=>?_,(fun l hl=>by cases hl),Nat.zero_le _,hn⟩
 ·rw[List.mem_singleton] at hd
  subst hd;exact HK hs
 ·rw[List.mem_singleton] at hd
  subst hd;exact S6
theorem wG{t:List UInt8}{p:aa×Hs}(h:de t=some p):p.1.ok=true/\jq p.1 t p.2:=by
 unfold de at h;rw[Option.map_eq_some_iff] at h;obtain⟨q,h1,rfl⟩:=h;obtain⟨h2,h3⟩:=yO h1;have hs:=gw (fj h2).1;exact⟨h2,Zo hs _ _ _ _ (Nat.le_refl _) (yS hs h3) (Nat.le_refl _)⟩
end Go.D3
namespace Go.D3
open Go
def ak.vl(d:ak)(e i:Nat):Int:=(d.mp.getD e []).getD i 0
def ak.ln(d:ak)(e:Nat):Nat:=(d.mp.getD e []).length
def az.fW(c:az)(e i:Int):Bool:=decide (c.kd=2)&&decide (c.fi=e)&&decide (c.se=i)
theorem tU{c:az}{e i:Int}:c.fW e i=true↔c.kd=2/\c.fi=e/\c.se=i:=by
 unfold az.fW;rw[Bool.and_eq_true,Bool.and_eq_true,decide_eq_true_eq,decide_eq_true_eq,decide_eq_true_eq,and_assoc]
theorem Tv{c:az}(h:c.okB=true)(hk:¬c.kd=1):c.kd=2:=by
 unfold az.okB at h;rw[if_neg hk,beq_iff_eq] at h;exact h
theorem NK{s:aa}{d:ak}{c:az}(h:dH s d)(hc:d.can s c=true){e i:Nat}(he:e<s.fr.length) :
  d.ln e<=(d.app s c).ln e/\(c.fW e i=true->i<d.ln e)/\(c.fW e i=false->(i<d.ln e->(d.app s c).vl e i=d.vl e i)/\(d.ln e<=i->i<(d.app s c).ln e->(d.app s c).vl e i=-1)):=by
 have hmf:=h.mp;unfold ak.can at hc;rw[Bool.and_eq_true] at hc;unfold ak.app ak.vl ak.ln;by_cases hk:c.kd=1
 ·rw[if_pos hk]
  have hmp:(fM d.mp (eN s.fr c.fi s.fr.length)).getD e []=if e<s.fr.length/\s.fr.getD e 0=c.fi then d.mp.getD e []++[-1] else d.mp.getD e []:=uF (by omega) e
  dsimp only;rw[hmp];by_cases hx:e<s.fr.length/\s.fr.getD e 0=c.fi
  ·rw[if_pos hx,List.length_append,List.length_cons,List.length_nil]
   refine⟨by omega,fun hs=>?_,fun _=>⟨fun hi=>?_,fun h1 h2=>?_⟩⟩
   ·have:=(tU.1 hs).1;omega
   ·rw[List.getD_eq_getElem?_getD,List.getElem?_append,if_pos hi,<-List.getD_eq_getElem?_getD]
   ·rw[List.getD_eq_getElem?_getD,List.getElem?_append,if_neg (by omega),show i-(d.mp.getD e []).length=0 by omega];rfl
  ·rw[if_neg hx]
   refine⟨Nat.le_refl _,fun hs=>?_,fun _=>⟨fun _=>rfl,fun h1 h2=>by omega⟩⟩;have:=(tU.1 hs).1;omega
 ·rw[if_neg hk]
  rw[if_neg hk] at hc;simp only[Bool.and_eq_true,aR,decide_eq_true_eq] at hc;obtain⟨hok,⟨⟨h0,h1⟩,h2,h3⟩,h4,h5⟩:=hc;have hlt:c.fi.toNat<d.mp.length:=by omega
  have hl:=h.len _ hlt;have hkd:c.kd=2:=Tv hok hk;dsimp only;rw[nL hlt];by_cases hx:e=c.fi.toNat
  ·subst hx
   rw[if_pos rfl,List.length_set];refine⟨Nat.le_refl _,fun hs=>?_,fun hs=>⟨fun hi=>?_,fun _ _=>by omega⟩⟩
   ·have:=(tU.1 hs).2.2
    omega
   ·have hn:¬i=c.se.toNat:=by
     intro hi2;have:c.fW (c.fi.toNat:Int) (i:Int)=true:=tU.2 ⟨hkd,by omega,by omega⟩;rw[this] at hs;cases hs
    rw[nL (by omega),if_neg hn]
  ·rw[if_neg hx]
   refine⟨Nat.le_refl _,fun hs=>?_,fun _=>⟨fun _=>rfl,fun h1 h2=>by omega⟩⟩;have:=(tU.1 hs).2.1;omega
theorem Ej{s:aa}(hs:di s){e i:Nat}(he:e<s.fr.length):∀{l:List az}{d d2:ak},dH s d->ak.all s d l=some d2 ->
  d.ln e<=d2.ln e/\((∃c∈l,c.fW e i=true)->i<d2.ln e)/\((∀c∈l,c.fW e i=false)->(i<d.ln e->d2.vl e i=d.vl e i)/\(d.ln e<=i->i<d2.ln e->d2.vl e i=-1))
 | [],d,d2,h,ha=>by
  cases ha;exact⟨Nat.le_refl _,(fun⟨_,hm,_⟩=>by cases hm),fun _=>⟨fun _=>rfl,fun h1 h2=>by omega⟩⟩
 | c::l,d,d2,h,ha=>by
  rw[ak.all] at ha;split at ha
  ·rename_i hc
   obtain⟨a1,a2,a3⟩:=NK (i:=i) h hc he;obtain⟨b1,b2,b3⟩:=Ej hs (i:=i) he (h.app hs hc) ha;refine⟨by omega,fun⟨x,hm,hx⟩=>?_,fun hn=>?_⟩
   ·rcases List.mem_cons.1 hm with rfl | hm
    ·have:=a2 hx;omega
    ·exact b2 ⟨x,hm,hx⟩
   ·obtain⟨c1,c2⟩:=a3 (hn c List.mem_cons_self)
    obtain⟨d1,d2⟩:=b3 fun x hx=>hn x (List.mem_cons_of_mem _ hx)
    refine⟨fun hi=>by rw[d1 (by omega),c1 hi],fun h1 h2=>?_⟩;by_cases h3:i<(d.app s c).ln e
    ·rw[d1 h3,c2 h1 h3]
    ·exact d2 (by omega) h2
  ·cases ha
structure jT(s:aa)(H:Hs):Prop where
 dl:H.dt.length=H.tx.length+1
 d0:H.dt.getD 0 ak.zero=dL s
 st:∀j,j<H.tx.length->fB s (H.dt.getD j ak.zero) (H.tx.getD j [])=some (H.dt.getD (j+1) ak.zero)
theorem vk{α:Type}{l m:List α}{j:Nat}{z:α}:(l++m).getD j z=if j<l.length then l.getD j z else m.getD (j-l.length) z:=by
 rw[List.getD_eq_getElem?_getD,List.getElem?_append];split<;>rw[List.getD_eq_getElem?_getD]
theorem jT.push{s:aa}{H:Hs}{d:ak}{l:List az}{e:Nat}(h:jT s H)(hg:fB s H.last l=some d):jT s (H.push d l e):=by
 have hl:=h.dl;refine⟨?_,?_,fun j hj=>?_⟩
 ·simp only[Hs.push,List.length_append,List.length_cons,List.length_nil];omega
 ·show(H.dt++[d]).getD 0 ak.zero=_
  rw[vk,if_pos (by omega)];exact h.d0
 ·have hj:j<(H.tx++[l]).length:=hj
  rw[List.length_append,List.length_cons,List.length_nil] at hj;show fB s ((H.dt++[d]).getD j ak.zero) ((H.tx++[l]).getD j [])=some ((H.dt++[d]).getD (j+1) ak.zero);rw[vk,if_pos (by omega),vk,vk];by_cases h1:j<H.tx.length
  ·rw[if_pos h1,if_pos (by omega)];exact h.st j h1
  ·rw[if_neg h1,if_neg (by omega),show j-H.tx.length=0 by omega,show j+1-H.dt.length=0 by omega]
   unfold Hs.last at hg;rw[show H.dt.length-1=j by omega] at hg;exact hg
theorem Zn{s:aa}{t:List UInt8}:∀(k a:Nat)(cs:List az)(H:Hs),t.length-a<=k->jT s H->jT s (e8 s t a cs H):=by
 intro k;induction k with
 | zero =>
  intro a cs H hk h;rw[mS];cases hl:fD t a with
  | none=>exact h
  | some l=>have:=kC hl;omega
 | succ k ih =>
  intro a cs H hk h;rw[mS];cases hl:fD t a with
  | none=>exact h
  | some l =>
   have h1:=kC hl;dsimp only;split
   ·cases hgo:fB s H.last cs with
    | none=>exact h
    | some d=>exact ih _ _ _ (by omega) (h.push hgo)
   ·cases eR l with
    | none=>exact h
    | some c =>
     dsimp only;split
     ·exact h
     ·exact ih _ _ _ (by omega) h
theorem Xt{t:List UInt8}{p:aa×Hs}(h:de t=some p):jT p.1 p.2:=by
 unfold de at h;rw[Option.map_eq_some_iff] at h;obtain⟨q,h1,rfl⟩:=h;exact Zn _ _ _ _ (Nat.le_refl _) ⟨rfl,rfl,fun j hj=>absurd hj (Nat.not_lt_zero _)⟩
theorem jT.ok{s:aa}{H:Hs}(h:jT s H)(hd:∀d∈H.dt,dH s d){j:Nat}(hj:j<=H.tx.length):dH s (H.dt.getD j ak.zero):=by
 have:=h.dl;rw[aN (by omega)];exact hd _ (List.getElem_mem _)
theorem jT.same{s:aa}{H:Hs}(hs:di s)(h:jT s H)(hd:∀d∈H.dt,dH s d){e i:Nat}(he:e<s.fr.length){k:Nat}:∀m,k+m<=H.tx.length->(∀q,k<=q->q<k+m->∀c∈H.tx.getD q [],c.fW e i=false)->i<(H.dt.getD k ak.zero).ln e->i<(H.dt.getD (k+m) ak.zero).ln e/\(H.dt.getD (k+m) ak.zero).vl e i=(H.dt.getD k ak.zero).vl e i
 | 0,_,_,hi=>⟨hi,rfl⟩
 | m+1,hm,hn,hi=>by
  obtain⟨i1,i2⟩:=jT.same hs h hd he m (by omega) (fun q h1 h2=>hn q h1 (by omega)) hi;obtain⟨g1,_,_⟩:=yM (h.st (k+m) (by omega));obtain⟨a1,_,a3⟩:=Ej hs (i:=i) he (h.ok hd (by omega)) g1;obtain⟨c1,_⟩:=a3 (hn (k+m) (by omega) (by omega));rw[<-Nat.add_assoc];exact⟨by omega,by rw[c1 i1,i2]⟩
end Go.D3
