/- ARGUMENTS AS DATA: types by codes;what the form's reading says of a value,in this logic's words. Generic. -/
import Derived.Test.YtgieggnpnepkfaaGreatDoorKit
import Derived.ChangeArms
import Derived.DataReads
import Derived.DataElems
import Derived.OpenShut
import Derived.JoinedCond
import Derived.JoinedOf
import Derived.Carry
namespace Go.D3
open Go
inductive Ty where
 | int (k:IntKind)
 | bool
 | str
 | sl (e:Ty)
 | nil
 | cons (a b:Ty)
def Ty.V:Ty→Type
 | .int _=>Int
 | .bool=>Bool
 | .str=>List UInt8
 | .sl e=>List e.V
 | .nil=>Unit
 | .cons a b=>a.V×b.V
def Ty.st:Ty→Bool
 | .nil | .cons _ _=>true
 | _=>false
def wrapD (s:Bool) (l:List D):D:=match s with
 | true=>.agg l
 | false=>l.headD .dead
def Ty.z:(t:Ty)→t.V
 | .int _=>(0:Int)
 | .bool=>false
 | .str=>[]
 | .sl _=>[]
 | .nil=>()
 | .cons a b=>(a.z,b.z)
def Ty.n:Ty→Nat
 | .nil=>0
 | .cons a b=>a.n+b.n
 | _=>1
def Ty.cs:(t:Ty)→t.V→List D
 | .int k,(x:Int)=>[.int k x]
 | .bool,(x:Bool)=>[.bool x]
 | .str,(x:List UInt8)=>[.str x]
 | .sl e,(l:List e.V)=>[.slice (wrapD e.st (e.cs e.z)) (l.map fun x=>wrapD e.st (e.cs x))]
 | .nil,_=>[]
 | .cons a b,(x,y)=>a.cs x++b.cs y
def Ty.d (t:Ty) (x:t.V):D:=wrapD t.st (t.cs x)
theorem Ty.cs_len:∀ (t:Ty) (x:t.V),(t.cs x).length=t.n
 | .int _,_=>rfl
 | .bool,_=>rfl
 | .str,_=>rfl
 | .sl _,_=>rfl
 | .nil,_=>rfl
 | .cons a b,(x,y)=>by simp only [Ty.cs,List.length_append,Ty.n,Ty.cs_len a x,Ty.cs_len b y]
theorem Ty.d_cells:∀ (t:Ty) (x:t.V),(t.d x).cells=t.cs x
 | .int _,_=>rfl
 | .bool,_=>rfl
 | .str,_=>rfl
 | .sl _,_=>rfl
 | .nil,_=>rfl
 | .cons _ _,_=>rfl
def Ty.chk (P:Program):Ty→(TypeId ⊕ (List Field×Nat))→Bool
 | .int k,.inl T=>(match P.underlying T with | some (.int k')=>decide (k'=k) | _=>false)
 | .bool,.inl T=>(match P.underlying T with | some .bool=>true | _=>false)
 | .str,.inl T=>(match P.underlying T with | some .string=>true | _=>false)
 | .sl e,.inl T=>(match P.underlying T with | some (.slice E)=>e.chk P (.inl E)&&decide (P.cellsOf E=e.n)&&decide (0<e.n) | _=>false)
 | .nil,.inr ([],_)=>true
 | .cons a b,.inr (f::r,off)=>decide (f.offset=off)&&decide (P.cellsOf f.type=a.n)&&a.chk P (.inl f.type)&&b.chk P (.inr (r,off+a.n))
 | .cons a b,.inl T=>(match P.underlying T with
  | some (.struct fs)=>decide (P.cellsOf T=a.n+b.n)&&(match fs.toList with
   | f::r=>decide (f.offset=0)&&decide (P.cellsOf f.type=a.n)&&a.chk P (.inl f.type)&&b.chk P (.inr (r,a.n))
   | []=>false)
  | _=>false)
 | _,_=>false
section
variable {H:Type} {enc:TypeId×Value→H} {P:Program} {w:World} {base:Nat} {spare:Nat→Bool} {held:Bool}
def live' (w:World) (b:Nat):Prop:=b<w.heap.size
theorem cell_live' {a:Addr} {v:Value} (h:w.cell? a=some v):a.block<w.heap.size∧a.spot=none:=by
 unfold World.cell? at h
 split at h
 ·rename_i c _ _ hb
  refine ⟨?_,?_⟩
  ·have:=Array.getElem?_eq_some_iff.1 hb;exact this.1
  ·split at h
   ·cases h
   ·rename_i hs;simpa using hs
 ·cases h
theorem trod_ty:∀ (ty:Ty),(∀ {T:TypeId} {fuel:Nat} {vs:List Value} {x:DataW H×List MemPlace},ty.chk P (.inl T)=true→DataW.trod enc P w base spare held fuel T vs=some x →
   ∃ y:ty.V,vs.length=ty.n∧∀ j c,(ty.cs y)[j]?=some c→Rd w (live' w) (vs.getD j undef) c) ∧
  (∀ {r:List Field} {off fuel:Nat} {vs:List Value},ty.chk P (.inr (r,off))=true→(∀ (i:Nat) (f:Field),r[i]?=some f→∃ x,DataW.trod enc P w base spare held fuel f.type ((vs.drop f.offset).take (P.cellsOf f.type))=some x) →
    ∃ y:ty.V,∀ j c,(ty.cs y)[j]?=some c→Rd w (live' w) (vs.getD (off+j) undef) c)
 | .int k=>by
  refine ⟨fun {T fuel vs x} hc h=>?_,fun {r off fuel vs} hc _=>by simp [Ty.chk] at hc⟩
  simp only [Ty.chk] at hc
  split at hc<;>try (cases hc;done)
  rename_i k' hu
  simp only [decide_eq_true_eq] at hc
  subst hc
  obtain ⟨n,rfl,_,hw⟩:=DataW.trod_int hu h
  refine ⟨n,rfl,fun j c hj=>?_⟩
  cases j with
  | zero=>simp [Ty.cs] at hj;subst hj;exact .int (by simpa [Lit.wf,IntKind.has] using hw)
  | succ j=>simp [Ty.cs] at hj
 | .bool=>by
  refine ⟨fun {T fuel vs x} hc h=>?_,fun {r off fuel vs} hc _=>by simp [Ty.chk] at hc⟩
  simp only [Ty.chk] at hc
  split at hc<;>try (cases hc;done)
  rename_i hu
  obtain ⟨n,rfl,_⟩:=DataW.trod_bool hu h
  refine ⟨n,rfl,fun j c hj=>?_⟩
  cases j with
  | zero=>simp [Ty.cs] at hj;subst hj;exact .bool
  | succ j=>simp [Ty.cs] at hj
 | .str=>by
  refine ⟨fun {T fuel vs x} hc h=>?_,fun {r off fuel vs} hc _=>by simp [Ty.chk] at hc⟩
  simp only [Ty.chk] at hc
  split at hc<;>try (cases hc;done)
  rename_i hu
  obtain ⟨s,rfl,_,hs⟩:=DataW.trod_string hu h
  refine ⟨s.data.toList,rfl,fun j c hj=>?_⟩
  cases j with
  | zero =>
   simp [Ty.cs] at hj;subst hj
   have:=Rd.str (w:=w) (A:=live' w) (s:=s.data.toList) (by simpa using hs)
   rw [← data_mk] at this
   exact this
  | succ j=>simp [Ty.cs] at hj
 | .sl e=>by
  refine ⟨fun {T fuel vs x} hc h=>?_,fun {r off fuel vs} hc _=>by simp [Ty.chk] at hc⟩
  simp only [Ty.chk] at hc
  split at hc<;>try (cases hc;done)
  rename_i E hu
  simp only [Bool.and_eq_true,decide_eq_true_eq] at hc
  obtain ⟨⟨hc1,hc2⟩,hc3⟩:=hc
  have one:∀ (l:List e.V) (v:Value),vs=[v]→Rd w (live' w) v (.slice (e.d e.z) (l.map e.d))→∃ y:(Ty.sl e).V,vs.length=(Ty.sl e).n∧∀ j c,((Ty.sl e).cs y)[j]?=some c→Rd w (live' w) (vs.getD j undef) c:=by
   rintro l v rfl hr
   refine ⟨l,rfl,fun j c hj=>?_⟩
   cases j with
   | zero=>simp [Ty.cs] at hj;subst hj;exact hr
   | succ j=>simp [Ty.cs] at hj
  rcases DataW.trod_slice hu h with ⟨hvs,_⟩ | ⟨a,len,cap,elems,rest,n,_,hvs,_,hb,hl,hm,hlen,hel,_,_⟩
  ·exact one [] _ hvs .nil
  ·cases len with
   | zero=>exact one [] _ hvs (.empty hm)
   | succ len =>
    have each:∀ i,∃ (y:e.V) (us:List Value),i<len+1→us.length=e.n∧(∀ j,j<e.n→w.cell? (a.add (i*e.n+j))=us[j]?)∧∀ j c,(e.cs y)[j]?=some c→Rd w (live' w) (us.getD j undef) c:=by
     intro i
     by_cases hi:i<len+1
     ·have h1:=hel i hi
      have h2:elems[i]?=some elems[i]:=List.getElem?_eq_getElem (by omega)
      rw [h2,Option.bind_eq_some_iff] at h1
      obtain ⟨us,h3,h4⟩:=h1
      obtain ⟨y,h5,h6⟩:=(trod_ty e).1 hc1 h4
      obtain ⟨_,h8,h7⟩:=World.cells?_some h3
      rw [hc2] at h7 h8
      refine ⟨y,us,fun _=>⟨h5,fun j hj=>?_,h6⟩⟩
      rw [← Addr.add_add]
      exact h7 j hj
     ·exact ⟨e.z,[],fun hh=>absurd hh hi⟩
    obtain ⟨y,us,hus⟩:∃ (y:Nat→e.V) (us:Nat→List Value),∀ i,i<len+1→(us i).length=e.n∧(∀ j,j<e.n→w.cell? (a.add (i*e.n+j))=(us i)[j]?)∧∀ j c,(e.cs (y i))[j]?=some c→Rd w (live' w) ((us i).getD j undef) c :=
     ⟨fun i=>Classical.choose (each i),fun i=>Classical.choose (Classical.choose_spec (each i)),fun i=>Classical.choose_spec (Classical.choose_spec (each i))⟩
    obtain ⟨q1,q2,q3⟩:=hus 0 (by omega)
    have h0:=q2 0 hc3
    have h0':∃ u,w.cell? a=some u:=by
     rw [Nat.zero_mul,Nat.zero_add,Addr.add_zero'] at h0
     rw [h0]
     exact ⟨(us 0)[0]'(by show 0<(us 0).length;rw [q1];exact hc3),List.getElem?_eq_getElem _⟩
    obtain ⟨u0,h0'⟩:=h0'
    obtain ⟨l1,l2⟩:=cell_live' h0'
    obtain ⟨b,off,spot⟩:=a
    simp only at l1 l2
    subst l2
    have hsz:∀ d∈(List.range (len+1)).map (fun i=>e.d (y i)),d.cells.length=e.n:=by
     intro d hd
     obtain ⟨i,_,rfl⟩:=List.mem_map.1 hd
     rw [Ty.d_cells,Ty.cs_len]
    have hcell:∀ j d,cellAt ((List.range (len+1)).map fun i=>e.d (y i)) e.n j=some d→∃ i o,j=i*e.n+o∧i<len+1∧o<e.n∧(e.cs (y i))[o]?=some d:=by
     intro j d hd
     unfold cellAt at hd
     rw [List.getElem?_map] at hd
     by_cases hi:j / e.n<len+1
     ·rw [List.getElem?_range hi] at hd
      simp only [Option.map_some,Option.bind_some,Ty.d_cells] at hd
      refine ⟨j / e.n,j % e.n,by rw [Nat.mul_comm];exact (Nat.div_add_mod j e.n).symm,hi,Nat.mod_lt _ hc3,hd⟩
     ·rw [List.getElem?_eq_none (by simpa using hi)] at hd
      simp at hd
    have hr:Rd w (live' w) (.slice (some ⟨b,off,none⟩) ((List.range (len+1)).map fun i=>e.d (y i)).length cap) (.slice (e.d e.z) ((List.range (len+1)).map fun i=>e.d (y i))):=by
     refine Rd.slice l1 (by simpa using hl) hm hc3 (by rw [Ty.d_cells,Ty.cs_len]) hsz (fun j=>(us (j / e.n)).getD (j % e.n) undef) (fun j d hd=>?_) (fun j d hd=>?_)
     ·obtain ⟨i,o,rfl,hi,ho,_⟩:=hcell j d hd
      obtain ⟨p1,p2,_⟩:=hus i hi
      have:=p2 o ho
      rw [Addr.add_lit] at this
      rw [this]
      have e1:(i*e.n+o) / e.n=i:=by rw [Nat.mul_comm,Nat.mul_add_div hc3,Nat.div_eq_of_lt ho];omega
      have e2:(i*e.n+o) % e.n=o:=by rw [Nat.mul_comm,Nat.mul_add_mod,Nat.mod_eq_of_lt ho]
      rw [e1,e2]
      have ho':o<(us i).length:=by rw [p1];exact ho
      rw [List.getD_eq_getElem?_getD,List.getElem?_eq_getElem ho'];rfl
     ·obtain ⟨i,o,rfl,hi,ho,hd'⟩:=hcell j d hd
      obtain ⟨_,_,p3⟩:=hus i hi
      have e1:(i*e.n+o) / e.n=i:=by rw [Nat.mul_comm,Nat.mul_add_div hc3,Nat.div_eq_of_lt ho];omega
      have e2:(i*e.n+o) % e.n=o:=by rw [Nat.mul_comm,Nat.mul_add_mod,Nat.mod_eq_of_lt ho]
      show Rd w _ ((us ((i*e.n+o) / e.n)).getD ((i*e.n+o) % e.n) undef) d
      rw [e1,e2]
      exact p3 o d hd'
    refine one ((List.range (len+1)).map y) _ hvs ?_
    rw [List.map_map]
    have e3:((List.range (len+1)).map fun i=>e.d (y i)).length=len+1:=by simp
    rw [e3] at hr
    exact hr
 | .nil=>by
  refine ⟨fun {T fuel vs x} hc h=>by simp [Ty.chk] at hc,fun {r off fuel vs} hc _=>⟨(),fun j c hj=>by simp [Ty.cs] at hj⟩⟩
 | .cons a b=>by
  have fields:∀ {f:Field} {r:List Field} {off fuel:Nat} {vs:List Value},f.offset=off→P.cellsOf f.type=a.n→a.chk P (.inl f.type)=true→b.chk P (.inr (r,off+a.n))=true →
    (∀ (i:Nat) (g:Field),(f::r)[i]?=some g→∃ x,DataW.trod enc P w base spare held fuel g.type ((vs.drop g.offset).take (P.cellsOf g.type))=some x) →
    ∃ y:(Ty.cons a b).V,∀ j c,((Ty.cons a b).cs y)[j]?=some c→Rd w (live' w) (vs.getD (off+j) undef) c:=by
   intro f r off fuel vs h1 h2 h3 h4 h
   obtain ⟨x,hx⟩:=h 0 f rfl
   obtain ⟨y1,k1,k2⟩:=(trod_ty a).1 h3 hx
   obtain ⟨y2,k3⟩:=(trod_ty b).2 (vs:=vs) (fuel:=fuel) h4 fun i g hg=>h (i+1) g (by simpa using hg)
   refine ⟨(y1,y2),fun j c hj=>?_⟩
   have hlen:=Ty.cs_len a y1
   simp only [Ty.cs] at hj
   by_cases hja:j<a.n
   ·rw [List.getElem?_append_left (by omega)] at hj
    have:=k2 j c hj
    rw [h1,h2] at this
    have e1:((vs.drop off).take a.n).getD j undef=vs.getD (off+j) undef:=by
     simp only [List.getD_eq_getElem?_getD]
     rw [List.getElem?_take_of_lt hja,List.getElem?_drop]
    rwa [e1] at this
   ·rw [List.getElem?_append_right (by omega),hlen] at hj
    have:=k3 (j-a.n) c hj
    rwa [show off+a.n+(j-a.n)=off+j by omega] at this
  refine ⟨fun {T fuel vs x} hc h=>?_,fun {r off fuel vs} hc h=>?_⟩
  ·simp only [Ty.chk] at hc
   split at hc<;>try (cases hc;done)
   rename_i fs hu
   simp only [Bool.and_eq_true,decide_eq_true_eq] at hc
   obtain ⟨hn,hc⟩:=hc
   split at hc<;>try (cases hc;done)
   rename_i f r hfs
   simp only [Bool.and_eq_true,decide_eq_true_eq] at hc
   obtain ⟨⟨⟨h1,h2⟩,h3⟩,h4⟩:=hc
   obtain ⟨xs,n,_,_,hlen,hxs,hf⟩:=DataW.trod_struct hu h
   obtain ⟨y,hy⟩:=fields (off:=0) (vs:=vs) (fuel:=n) h1 h2 h3 (by rw [Nat.zero_add];exact h4) fun i g hg=>by
    have hg':fs[i]?=some g:=by rw [← hfs] at hg;simpa using hg
    have:=hf i g hg'
    rw [this]
    have hi:i<fs.size:=(Array.getElem?_eq_some_iff.1 hg').1
    exact ⟨_,List.getElem?_eq_getElem (by omega)⟩
   refine ⟨y,by rw [hlen,hn];rfl,fun j c hj=>?_⟩
   have:=hy j c hj
   rwa [Nat.zero_add] at this
  ·cases r with
   | nil=>simp [Ty.chk] at hc
   | cons f r =>
    simp only [Ty.chk,Bool.and_eq_true,decide_eq_true_eq] at hc
    obtain ⟨⟨⟨h1,h2⟩,h3⟩,h4⟩:=hc
    exact fields h1 h2 h3 h4 h
end
end Go.D3
