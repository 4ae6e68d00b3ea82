/- CONTRACTS: the law FnExactJournalSets. -/
import Derived.Test.YtpnchponfnbmiaaGreatDoorGBH
import Derived.Test.YtpnchponfnbmiaaGreatDoorGBL
namespace Go.D3
open Go Proofs
set_option maxHeartbeats 4000000
set_option maxRecDepth 100000
theorem QB(t:List UInt8):(ky (de t)).1.bM<=40000000:=by
 have z:Sf.zero.bM<=40000000:=by decide
 cases hr:de t with
 | none=>rw[y9 rfl];exact z
 | some p =>
  obtain⟨hok,_⟩:=wG hr;obtain⟨r1,_⟩:=zf hr;cases hp:p.1.cO with
  | none=>rw[y8 hp];exact z
  | some x =>
   rw[za hp];have h1:=OF (Aq hok hp).sh;have h2:=(Ap hok hp).2;obtain⟨z1,z2⟩:=AX hok r1;have hal:(jR p.2.last.sz p.2.last.mp x.ls).length=x.ls.length:=List.length_map _
   have key:∀l:List (List Int),(∀r∈l,r.length<=16)->(l.map List.length).sum<=l.length*16:=fun l=>by
    induction l with
    | nil=>intro _;simp
    | cons x l ih =>
     intro h;have:=ih fun p hp=>h p (List.mem_cons_of_mem _ hp)
     have:=h x List.mem_cons_self;simp only[List.map_cons,List.sum_cons,List.length_cons];omega
   have h3:=key (jR p.2.last.sz p.2.last.mp x.ls) fun r hr=>by
    obtain⟨q,_,rfl⟩:=List.mem_map.1 hr;unfold uC;rw[xq];by_cases hq:q.st.toNat<p.2.last.sz.length
    ·have:=z2 _ hq;omega
    ·rw[List.getD_eq_getElem?_getD,List.getElem?_eq_none (by omega)];decide
   have h4:=Ff (a:=jR p.2.last.sz p.2.last.mp x.ls);unfold dB at h4;show x.c.bM+p.2.last.sz.length+cL (jR p.2.last.sz p.2.last.mp x.ls) (jR p.2.last.sz p.2.last.mp x.ls).length<=_;omega
def CN:List Nat:=[0,2,3,4,5,6,7,8,9,10]
def Lc:Sl:=ah Tryz.types Tryz.f5 CN [(2,21)]
theorem UE:aC Tryz.prog Tryz.f5 CN Lc 1=true:=by decide +kernel
theorem Yn(t:List UInt8):aw Tryz.prog 5 [.v (.str t)] (.bool true):=by
 refine aK Tryz.func5 UE ?_;unfold Lc ah CN;simp only[go_sem];refine fun h0=>?_
 have ht:t.length<=1048576:=by omega
 have hR:=QB t;have hsp:=YF t ht;have him:=XF t ht;generalize ky (de t)=R at hR hsp him;refine an (hsp) rfl (.inl (by simp only[D.a7,db,pG,Bool.and_true])) ?_;simp only[go_sem];refine an (him) rfl (.inl (by simp only[D.a7,db,pG,Bool.and_true])) ?_;simp only[go_sem];refine an (JJ R.1) rfl (.inl rfl) ?_;simp only[go_sem];refine⟨fun hh=>by simp at hh,fun _=>?_⟩;refine GA (Yr R.1 1 (by omega) (by omega)) trivial ?_;simp only[go_sem];refine⟨(R.1.marks 1).cells,rfl,F6 ?_⟩;simp only[go_sem];refine an (JL R.1 1 (by omega) (by omega)) rfl (.inl rfl) ?_;simp only[go_sem];refine⟨fun hh=>by omega,fun _=>?_⟩;refine⟨fun hh=>by simp at hh,fun _=>?_⟩;refine an (him) rfl (.inl (by simp only[D.a7,db,pG,Bool.and_true])) ?_;simp only[go_sem];refine an (JJ R.1) rfl (.inl rfl) ?_;simp only[go_sem];refine⟨fun hh=>by simp at hh,fun _=>?_⟩;refine an (JL R.1 1 (by omega) (by omega)) rfl (.inl rfl) ?_;simp only[go_sem];refine⟨fun hh=>by omega,fun _=>?_⟩;simp
end Go.D3
