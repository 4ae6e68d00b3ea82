/- strings.IndexFunc at "no digit". -/
import Derived.Test.YtpnchponfnbmiaaGreatDoorGAV
import Derived.Test.YtpnchponfnbmiaaGreatDoorGAU
namespace Go.D3
open Go
set_option maxHeartbeats 4000000
set_option maxRecDepth 100000
set_option maxHeartbeats 1000000
def qB(s:List UInt8):List (List UInt8):=if s=[45] then[] else df [32] 0 s
def gN(l:List (List UInt8)):List UInt8:=if l=[] then[45] else Lib.join l [32]
def Ay:List Nat:=[0,2]
def H4:Sl:=ae Go.Proofs.Tryz.types Go.Proofs.Tryz.f120 Ay []
theorem PZ:aD Go.Proofs.Tryz.prog Go.Proofs.Tryz.f120 Ay H4 1=true:=by decide +kernel
theorem GP(l:List (List UInt8))(h1:l.length<=140737488355328)(h2:(Lib.join l [32]).length<=140737488355328):al Go.Proofs.Tryz.prog 120 [.v (fF l)] (.str (gN l)):=by
 unfold gN;refine aC Go.Proofs.Tryz.func120 PZ ?_;unfold H4 ae Ay;simp only[go_sem];refine⟨fun h=>by rw[if_pos (List.length_eq_zero_iff.1 (by omega))],fun h=>af (GS h1 h2) rfl (.inl rfl) ?_⟩;simp only[go_sem];rw[if_neg (by rintro rfl;simp at h)]
def Sch.jV(s:Sch)(i:Nat):List UInt8:=Lib.itoa (s.fr.getD i 0)++62::Lib.itoa (s.to.getD i 0)
def Sch.kG(s:Sch)(i:Nat):List UInt8:=(s.lf.getD i Pth.zero).dw++61::(s.rt.getD i Pth.zero).dw
def Sch.ga(s:Sch)(n:Nat):List (List UInt8):=(List.range n).map s.jV
def Sch.dC(s:Sch)(n:Nat):List (List UInt8):=(List.range n).map s.kG
def Sch.dw(s:Sch):List UInt8:=Lib.join [Lib.itoa s.nd,gN (s.ga s.fr.length),gN (s.dC s.lf.length)] [32,124,32]
structure er(s:Sch):Prop where
 nd : 0<=s.nd/\s.nd<=8
 f8:s.fr.length<=8
 to:s.to.length=s.fr.length
 ed:∀i,i<s.fr.length->(0<=s.fr.getD i 0/\s.fr.getD i 0<8)/\0<=s.to.getD i 0/\s.to.getD i 0<8
 l8:s.lf.length<=8
 rt:s.rt.length=s.lf.length
 eq:∀i,i<s.lf.length->ku (s.lf.getD i Pth.zero)/\ku (s.rt.getD i Pth.zero)
theorem DC{fr to:List Int}:∀{l:List Int}{x y:Int},bn fr to x l=some y->∀i,i<l.length->0<=l.getD i 0/\l.getD i 0<fr.length
 | [],_,_,_,i,hi=>by simp at hi
 | e::r,x,y,h,i,hi=>by
  rw[bn] at h;split at h
  ·rename_i hc
   simp only[Bool.and_eq_true,bq,decide_eq_true_eq] at hc;cases i with
   | zero=>exact⟨hc.1.1,by show e<_;omega⟩
   | succ i=>exact DC h i (by simpa using hi)
  ·cases h
theorem ve{s:Sch}(h:s.ok=true):er s:=by
 obtain⟨h1,h2,h3⟩:=eB h;have hs:=fg h1;have h8:=hs.n8
 have hp:∀{p:Pth}{y:Int},s.aB p=some y->ku p:=fun {p y} hy=>by
  obtain⟨a1,a2,a3⟩:=Di hy;exact⟨by omega,a2,fun i hi=>by have:=DC a3 i hi;have:=hs.f8;omega⟩
 refine⟨⟨hs.n0,hs.n8⟩,hs.f8,hs.to,fun i hi=>?_,h2,h3,fun i hi=>?_⟩
 ·have:=fP hs.fr hi
  have:=fP hs.vf (show i<s.to.length by rw[hs.to];exact hi);omega
 ·obtain⟨y,b1,b2,_⟩:=ok_eq h hi
  exact⟨hp b1,hp b2⟩
section
variable{s:Sch}(h:er s)
include h
theorem er.L2{i:Nat}(hi:i<s.fr.length):(s.jV i).length<=41:=by
 have:=h.ed i hi;have:=nO (n:=s.fr.getD i 0) (by omega) (by omega);have:=nO (n:=s.to.getD i 0) (by omega) (by omega);unfold Sch.jV;simp only[List.length_append,List.length_cons];omega
theorem er.eql{i:Nat}(hi:i<s.lf.length):(s.kG i).length<=81:=by
 have:=(h.eq i hi).1.vc;have:=(h.eq i hi).2.vc;unfold Sch.kG;simp only[List.length_append,List.length_cons];omega
end
theorem join_le{l:List (List UInt8)}{sep:List UInt8}{b:Nat}(h:∀x∈l,x.length<=b):(Lib.join l sep).length<=l.length*(b+sep.length):=by
 cases l with
 | nil=>simp[Lib.join_nil]
 | cons x r =>
  rw[Lib.join_cons]
  have key:∀r:List (List UInt8),(∀x∈r,x.length<=b)->(Lib.joinTail sep r).length<=r.length*(b+sep.length):=by
   intro r;induction r with
   | nil=>intro _;simp[Lib.joinTail]
   | cons y r ih =>
    intro hy;have h1:=ih fun z hz=>hy z (List.mem_cons_of_mem _ hz)
    have h2:=hy y List.mem_cons_self;have e:Lib.joinTail sep (y::r)=(sep++y)++Lib.joinTail sep r:=rfl;rw[e,List.length_append,List.length_append,List.length_cons,Nat.succ_mul];omega
  have h1:=key r fun z hz=>h z (List.mem_cons_of_mem _ hz)
  have h2:=h x List.mem_cons_self;rw[List.length_append,List.length_cons,Nat.succ_mul];omega
theorem uq{l:List (List UInt8)}{b:Nat}(h:∀x∈l,x.length<=b):(gN l).length<=l.length*(b+1)+1:=by
 unfold gN;split
 ·simp
 ·exact Nat.le_trans (join_le h) (by simp)
theorem LY{s:Sch}{i:Nat}:s.ga (i+1)=s.ga i++[s.jV i]:=by unfold Sch.ga;rw[List.range_succ,List.map_append];rfl
theorem L4{s:Sch}{i:Nat}:s.dC (i+1)=s.dC i++[s.kG i]:=by unfold Sch.dC;rw[List.range_succ,List.map_append];rfl
theorem wy{s:Sch}(h:er s){n:Nat}(hn:n<=s.fr.length):∀x∈s.ga n,x.length<=41:=fun x hx=>by
 obtain⟨i,hi,rfl⟩:=List.mem_map.1 hx;exact h.L2 (by have:=List.mem_range.1 hi;omega)
theorem wG{s:Sch}(h:er s){n:Nat}(hn:n<=s.lf.length):∀x∈s.dC n,x.length<=81:=fun x hx=>by
 obtain⟨i,hi,rfl⟩:=List.mem_map.1 hx;exact h.eql (by have:=List.mem_range.1 hi;omega)
theorem sY{s:Sch}{n:Nat}:(s.ga n).length=n:=by simp[Sch.ga]
theorem s5{s:Sch}{n:Nat}:(s.dC n).length=n:=by simp[Sch.dC]
theorem VJ{s:Sch}(h:er s):s.dw.length<=3400:=by
 have h0:=nO h.nd.1 (by have:=h.nd;omega);have h1:=uq (wy h (Nat.le_refl _));have h2:=uq (wG h (Nat.le_refl _));rw[sY] at h1;rw[s5] at h2;have:=h.f8;have:=h.l8;unfold Sch.dw;rw[rj,rj,Lib.join_one];simp only[List.length_append,List.length_cons,List.length_nil];omega
def Ah:List Nat:=[0,2,3,4,5,6,13,14,43,44]
def HN:Sl:=ae Go.Proofs.Tryz.types Go.Proofs.Tryz.f90 Ah []
theorem PH:aD Go.Proofs.Tryz.prog Go.Proofs.Tryz.f90 Ah HN 1=true:=by decide +kernel
theorem GL(s:Sch)(h:er s):al Go.Proofs.Tryz.prog 90 [.v (.ptr s.cells)] (.str s.dw):=by
 have hf8:=h.f8;have hl8:=h.l8;have hto:=h.to;have hrt:=h.rt;refine aC Go.Proofs.Tryz.func90 PH ?_;unfold HN ae Ah;simp only[go_sem];refine aJ [4] (fun(i:Nat)=>[(2,.o (fF (s.ga i))),(7,.int .i64 i)]) (fun i=>i<=s.fr.length) (fun i=>s.fr.length-i) 0 (by simp only[go_sem];rfl) (Nat.zero_le _) rfl ?_;intro i hi;simp only[go_sem];refine⟨fun h1=>⟨h1,af uH rfl (.inl rfl) ?_⟩,fun h1=>?_⟩
 ·simp only[go_sem]
  obtain⟨⟨a0,a1⟩,b0,b1⟩:=h.ed i h1;have l1:=nO a0 (by omega);have l2:=nO b0 (by omega);refine⟨by simp only[maxLen];omega,by omega,af uH rfl (.inl rfl) ?_⟩;simp only[go_sem];refine⟨by rw[List.length_append];simp only[maxLen,List.length_cons,List.length_nil];omega,by rw[sY];omega,i+1,h1,by omega,?_⟩;rw[wrap_small (by omega) (by omega),LY,List.append_assoc];rfl
 ·rw[show i=s.fr.length by omega]
  have nvp:∀p:Pth,(D.str p.dw).ba=true:=fun _=>rfl
  refine aJ [5] (fun(i:Nat)=>[(3,.o (fF (s.dC i))),(9,.int .i64 i)]) (fun i=>i<=s.lf.length) (fun i=>s.lf.length-i) 0 (by simp only[go_sem];rfl) (Nat.zero_le _) rfl ?_;intro i hi;simp only[go_sem];refine⟨fun h1=>?_,fun h1=>?_⟩
  ·obtain⟨p1,p2⟩:=h.eq i h1
   have l1:=p1.vc;have l2:=p2.vc;refine⟨h1,af (GI _ p1) rfl (.inl rfl) ?_⟩;simp only[go_sem];refine⟨by simp only[maxLen];omega,by omega,af (GI _ p2) rfl (.inl rfl) ?_⟩;simp only[go_sem];refine⟨by rw[List.length_append];simp only[maxLen,List.length_cons,List.length_nil];omega,by rw[s5];omega,i+1,h1,by omega,?_⟩;rw[wrap_small (by omega) (by omega),L4,List.append_assoc];rfl
  ·rw[show i=s.lf.length by omega]
   have e1:=uq (wy h (Nat.le_refl _));have e2:=uq (wG h (Nat.le_refl _));have j1:=join_le (sep:=[32]) (wy h (Nat.le_refl _));have j2:=join_le (sep:=[32]) (wG h (Nat.le_refl _));have ht:=VJ h;rw[sY] at e1 j1;rw[s5] at e2 j2;simp only[List.length_cons,List.length_nil] at j1 j2;refine af uH rfl (.inl rfl) ?_;simp only[go_sem];refine af (GP _ (by rw[sY];omega) (by omega)) rfl (.inl rfl) ?_;simp only[go_sem];refine af (GP _ (by rw[s5];omega) (by omega)) rfl (.inl rfl) ?_;simp only[go_sem];refine af (GS (l:=[_,_,_]) (by simp) (by unfold Sch.dw at ht;omega)) rfl (.inl rfl) ?_;simp only[go_sem];rfl
end Go.D3
namespace Go.D3
open Go
set_option maxHeartbeats 4000000
set_option maxRecDepth 100000
set_option maxHeartbeats 1000000
theorem T7{a:List UInt8}:D.slice (.str []) [.str a]=fF [a]:=rfl
attribute [go_sem] T7
def JD(w:List UInt8):Option (Nat×Nat):=match pM 6 (Lib.cut w [62]).1,(Lib.cut w [62]).2.2,pM 6 (Lib.cut w [62]).2.1 with
 | some a,true,some b=>some (a,b)
 | _,_,_=>none
end Go.D3
namespace Go.D3
open Go Go.RowKit Go.Proofs
set_option maxRecDepth 100000
end Go.D3
