/- PLAIN LAWS: texts that are split at a separator. -/
import Derived.Lib.SplitLaws
import Derived.Lib.Join
namespace Go.D3
open Go
def ny(b:UInt8):List (List UInt8)->List (List UInt8)
 | x::l=>(b::x)::l
 | []=>[[b]]
def om(s:List UInt8):List (List UInt8)->List (List UInt8)
 | x::l=>(s++x)::l
 | []=>[s]
def aS(p:List UInt8):Nat->List UInt8->List (List UInt8)
 | _,[]=>[[]]
 | k+1,_::r=>aS p k r
 | 0,b::r=>if p.isPrefixOf (b::r)=true then[]::aS p (p.length-1) r else ny b (aS p 0 r)
theorem qc{p:List UInt8}{k:Nat}:aS p k []=[[]]:=by cases k<;>rfl
theorem rK{p:List UInt8}:∀{k:Nat}{s:List UInt8},aS p k s≠[]
 | k,[]=>by rw[qc];simp
 | k+1,_::r=>by rw[aS];exact rK
 | 0,b::r=>by
  rw[aS];split
  ·simp
  ·cases aS p 0 r<;>simp[ny]
theorem Bq{p:List UInt8}:∀{k:Nat}{s:List UInt8},k<=s.length->aS p k s=aS p 0 (s.drop k)
 | 0,_,_=>rfl
 | k+1,[],h=>by simp at h
 | k+1,_::r,h=>by rw[aS,List.drop_succ_cons];exact Bq (by simpa using h)
theorem An{p s:List UInt8}(h:p.isPrefixOf s=true):p.length<=s.length:=(List.isPrefixOf_iff_prefix.1 h).length_le
theorem MC{p s:List UInt8}(hp:p≠[])(h:p.isPrefixOf s=true):aS p 0 s=[]::aS p 0 (s.drop p.length):=by
 have hl:=An h;cases s with
 | nil=>cases p with
  | nil=>exact absurd rfl hp
  | cons c q=>simp at hl
 | cons b r =>
  cases p with
  | nil=>exact absurd rfl hp
  | cons c q =>
   rw[aS,if_pos h,Bq (by simpa using hl)];simp
theorem tZ{p r:List UInt8}{b:UInt8}(h:p.isPrefixOf (b::r)=false):aS p 0 (b::r)=ny b (aS p 0 r):=by
 rw[aS,if_neg (by rw[h];simp)]
theorem Al{l:List (List UInt8)}(h:l≠[]):om [] l=l:=by cases l<;>simp_all[om]
theorem Wv{s:List UInt8}{b:UInt8}{l:List (List UInt8)}:om s (ny b l)=om (s++[b]) l:=by cases l<;>simp[om,ny]
theorem Bp{p:List UInt8}:∀{s:List UInt8},s.length<p.length->aS p 0 s=[s]
 | [],_=>qc
 | b::r,h=>by
  have:p.isPrefixOf (b::r)=false:=by
   cases hc:p.isPrefixOf (b::r) with
   | false=>rfl
   | true=>have:=An hc;omega
  rw[tZ this,Bp (by simp only[List.length_cons] at h;omega)];rfl
theorem aar{p:List UInt8}(hp:p≠[]):∀(n:Nat){s:List UInt8},s.length<=n->Lib.splitK p 0 (Lib.count s p) s=aS p 0 s:=by
 intro n;induction n with
 | zero =>
  intro s h;have:s=[]:=List.length_eq_zero_iff.1 (by omega);subst this
  have hi:Lib.index [] p=-1:=by cases p with
   | nil=>exact absurd rfl hp
   | cons c q=>rfl
  rw[Lib.count_miss hi,qc];rfl
 | succ n ih =>
  intro s h;cases hc:p.isPrefixOf s with
  | true =>
   have hi:Lib.index s p=((0:Nat):Int):=by cases s with
    | nil=>cases p with
     | nil=>rfl
     | cons c q=>simp at hc
    | cons b r=>rw[Lib.index,hc];rfl
   have hl:=An hc;have hp1 : 1<=p.length:=by cases p<;>simp_all
   rw[Lib.count_hit hp hi,Nat.add_comm,Lib.splitK,if_neg (by rw[hi];decide),MC hp hc,hi];simp only[Int.toNat_natCast,Nat.zero_add,Nat.add_zero,List.take_zero];rw[ih (by rw[List.length_drop];omega)]
  | false =>
   cases s with
   | nil =>
    have hi:Lib.index [] p=-1:=by cases p with
     | nil=>exact absurd rfl hp
     | cons c q=>rfl
    rw[Lib.count_miss hi,qc];rfl
   | cons b r =>
    have hix:Lib.index (b::r) p=if Lib.index r p == -1 then -1 else Lib.index r p+1:=by rw[Lib.index,hc];simp
    rw[tZ hc,<-ih (s:=r) (by simpa using h)];by_cases hm:Lib.index r p=-1
    ·rw[Lib.count_miss hm,Lib.count_miss (by rw[hix,if_pos (beq_iff_eq.2 hm)])];rfl
    ·have hge:=Lib.index_ge r p
     obtain⟨j,hj⟩:∃j:Nat,Lib.index r p=j:=⟨(Lib.index r p).toNat,by omega⟩;have hix':Lib.index (b::r) p=((j+1:Nat):Int):=by rw[hix,if_neg (fun e=>hm (beq_iff_eq.1 e)),hj];rfl
     rw[Lib.count_hit hp hj,Lib.count_hit hp hix',Nat.add_comm 1,Nat.add_comm 1,Lib.splitK,Lib.splitK,if_neg (by rw[hix'];simp;omega),if_neg (by rw[hj];simp),hix',hj];have e1:(b::r).drop (j+1+p.length)=r.drop (j+p.length):=by rw[show j+1+p.length=(j+p.length)+1 by omega,List.drop_succ_cons]
     simp only[Int.toNat_natCast,e1,Nat.add_zero,List.take_succ_cons,ny]
theorem Bn{p:List UInt8}(hp:p≠[]){r:List UInt8}:∀{a:List UInt8},(∀i,i<a.length->p.isPrefixOf ((a++p++r).drop i)=false)->aS p 0 (a++p++r)=a::aS p 0 r
 | [],_=>by
  rw[List.nil_append,MC hp (List.isPrefixOf_iff_prefix.2 (List.prefix_append _ _)),List.drop_left]
 | b::a,h=>by
  have h0:=h 0 (by simp);have:=Bn hp (r:=r) (a:=a) fun i hi=>by have:=h (i+1) (by simp;omega);simpa using this
  rw[List.cons_append,List.cons_append,tZ (by simpa using h0),this];rfl
theorem Bo{p:List UInt8}:∀{a:List UInt8},(∀i,i<a.length->p.isPrefixOf (a.drop i)=false)->aS p 0 a=[a]
 | [],_=>qc
 | b::a,h=>by
  have h0:=h 0 (by simp);have:=Bo (p:=p) (a:=a) fun i hi=>by have:=h (i+1) (by simp;omega);simpa using this
  rw[tZ (by simpa using h0),this];rfl
theorem rz{c:UInt8}{s:List UInt8}:[c].isPrefixOf s=(s.head? == some c):=by
 cases s<;>simp[List.isPrefixOf,Bool.beq_comm]
theorem Bj{c:UInt8}{a r:List UInt8}(h:c ∉ a):aS [c] 0 (a++[c]++r)=a::aS [c] 0 r:=by
 refine Bn (by simp) fun i hi=>?_
 rw[rz,List.append_assoc,List.drop_append_of_le_length (by omega),List.drop_eq_getElem_cons hi];simp only[List.cons_append,List.head?_cons];rw[Bool.eq_false_iff];intro hh;simp only[beq_iff_eq,Option.some.injEq] at hh;exact h (hh▸List.getElem_mem hi)
theorem Bk{c:UInt8}{a:List UInt8}(h:c ∉ a):aS [c] 0 a=[a]:=by
 refine Bo fun i hi=>?_
 rw[rz,List.drop_eq_getElem_cons hi,List.head?_cons,Bool.eq_false_iff];intro hh;simp only[beq_iff_eq,Option.some.injEq] at hh;exact h (hh▸List.getElem_mem hi)
theorem Mx{x c y:UInt8}{a r:List UInt8}(hx:x≠c)(h:c ∉ a):aS [x,c,y] 0 (a++[x,c,y]++r)=a::aS [x,c,y] 0 r:=by
 refine Bn (by simp) fun i hi=>?_
 rw[Bool.eq_false_iff];intro hh;obtain⟨t,ht⟩:=List.isPrefixOf_iff_prefix.1 hh;have h1:((a++[x,c,y]++r).drop i)[1]?=some c:=by rw[<-ht];rfl
 rw[List.getElem?_drop,List.append_assoc] at h1;by_cases hl:i+1<a.length
 ·rw[List.getElem?_append_left hl,List.getElem?_eq_getElem hl] at h1
  exact h (by injection h1 with h1;rw[<-h1];exact List.getElem_mem _)
 ·rw[List.getElem?_append_right (by omega),show i+1-a.length=0 by omega] at h1
  exact hx (by simpa using h1)
theorem aao{x c y:UInt8}{a:List UInt8}(h:c ∉ a):aS [x,c,y] 0 a=[a]:=by
 refine Bo fun i hi=>?_
 rw[Bool.eq_false_iff];intro hh;obtain⟨t,ht⟩:=List.isPrefixOf_iff_prefix.1 hh;have h1:(a.drop i)[1]?=some c:=by rw[<-ht];rfl
 rw[List.getElem?_drop] at h1;exact h (List.mem_of_getElem? h1)
theorem pt{x y sep:List UInt8}{l:List (List UInt8)}:Lib.join (x::y::l) sep=x++sep++Lib.join (y::l) sep:=by
 rw[Lib.join_cons,Lib.join_cons];unfold Lib.joinTail;simp
theorem MD{c:UInt8}:∀{l:List (List UInt8)},l≠[]->(∀x∈l,c ∉ x)->aS [c] 0 (Lib.join l [c])=l
 | [],h,_=>absurd rfl h
 | [x],_,h=>by rw[Lib.join_one];exact Bk (h x (by simp))
 | x::y::l,_,h=>by
  rw[pt,Bj (h x (by simp)),MD (by simp) fun z hz=>h z (List.mem_cons_of_mem _ hz)]
theorem oC{p:List UInt8}:∀{k:Nat}{s:List UInt8},(aS p k s).length<=s.length+1
 | k,[]=>by rw[qc];simp
 | k+1,_::r=>by rw[aS];have:=oC (p:=p) (k:=k) (s:=r);simp;omega
 | 0,b::r=>by
  rw[aS];have h1:=oC (p:=p) (k:=p.length-1) (s:=r);have h2:=oC (p:=p) (k:=0) (s:=r);split
  ·simp;omega
  ·cases hh:aS p 0 r with
   | nil=>simp[ny]
   | cons x l=>rw[hh] at h2;simp[ny] at h2|-;omega
theorem iF{p:List UInt8}:∀{k:Nat}{s x:List UInt8},x∈aS p k s->x.length<=s.length
 | k,[],x,h=>by rw[qc] at h;simp at h;subst h;simp
 | k+1,_::r,x,h=>by rw[aS] at h;have:=iF h;simp;omega
 | 0,b::r,x,h=>by
  rw[aS] at h;split at h
  ·rcases List.mem_cons.1 h with rfl | h
   ·simp
   ·have:=iF h;simp;omega
  ·cases hh:aS p 0 r with
   | nil=>exact absurd hh rK
   | cons y l =>
    rw[hh] at h;rcases List.mem_cons.1 h with rfl | h
    ·have:=iF (p:=p) (k:=0) (s:=r) (x:=y) (by rw[hh];simp);simp;omega
    ·have:=iF (p:=p) (k:=0) (s:=r) (x:=x) (by rw[hh];simp[h]);simp;omega
end Go.D3
