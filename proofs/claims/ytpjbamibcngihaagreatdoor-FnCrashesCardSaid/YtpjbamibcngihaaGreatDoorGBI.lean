/- PLAIN LAWS: set functors whose elements are glued. -/
import Derived.Test.YtpjbamibcngihaaGreatDoorGBE
namespace Go.D3
open Go
theorem oG{α:Type}{l:List α}{i j:Nat}{x d:α}(hi:i<l.length):(l.set i x).getD j d=if j=i then x else l.getD j d:=by
 rw[List.getD_eq_getElem?_getD,List.getD_eq_getElem?_getD];by_cases h:j=i
 ·subst h;rw[if_pos rfl,List.getElem?_set_self hi];rfl
 ·rw[if_neg h,List.getElem?_set_ne (Ne.symm h)]
structure Sf where
 bw:aA
 sz:List Int
 act:List (List Int)
def Sf.cells(x:Sf):List D:=[.int .i64 x.bw.ob,ints x.bw.fr,ints x.bw.to,ints x.bw.bC,aI x.bw.co,ints x.sz,aI x.act]
def Sf.d(x:Sf):D:=.agg x.cells
attribute [go_sem] Sf.cells.eq_1 Sf.d.eq_1
theorem yg(x:Sf):x.d.ba=true:=by simp only[Sf.d,Sf.cells,D.ba,cB,bZ,ff,Bool.and_self]
structure oQ(n:Int)(c:aA)(f:Sf):Prop where
 bw:f.bw=c
 r9:(f.sz.length:Int)=c.ob
 sz:∀x,x<f.sz.length->0<=f.sz.getD x 0/\f.sz.getD x 0<=n
 al:f.act.length=c.fr.length
 row:∀a,a<c.fr.length->((f.act.getD a []).length:Int)=f.sz.getD (c.fr.getD a 0).toNat 0
 xd:∀a i,a<c.fr.length->i<(f.act.getD a []).length->0<=(f.act.getD a []).getD i 0/\(f.act.getD a []).getD i 0<f.sz.getD (c.to.getD a 0).toNat 0
theorem oQ.le{n m:Int}{c:aA}{f:Sf}(h:oQ n c f)(hs:∀x,x<f.sz.length->f.sz.getD x 0<=m):oQ m c f :=
 ⟨h.bw,h.r9,fun x hx=>⟨(h.sz x hx).1,hs x hx⟩,h.al,h.row,h.xd⟩
theorem aA.Shape.cost{c:aA}(h:c.Shape):aA.cost c<=1048576:=by
 have h1:=h.fr;have h2:=h.to;have h3:=h.kY;have h4:=h.co
 have key:∀(l:List (List Int))(b:Nat),(∀r∈l,r.length<=b)->(l.map List.length).sum<=l.length*b:=by
  intro l b;induction l with
  | nil=>intro _;simp
  | cons x l ih =>
   intro hl;have:=hl x List.mem_cons_self;have:=ih fun r hr=>hl r (List.mem_cons_of_mem _ hr)
   rw[List.map_cons,List.sum_cons,List.length_cons,Nat.succ_mul];omega
 have h5:=key c.co 40 fun r hr=>by
  obtain⟨i,hi,rfl⟩:=List.getElem_of_mem hr;rw[<-aS (d:=[]) hi,h.row i (by omega)];exact h1
 unfold aA.cost fM;omega
structure fH(c:aA)(ob:List Int)(k h:Nat)(L:List (List (List Int))):Prop where
 len:L.length=c.ob.toNat
 el:∀y r,r∈L.getD y []->∃i j:Nat,r=[(i:Int),(j:Int)]/\i<ob.length/\j<c.fr.length/\c.fr.getD j 0=ob.getD i 0/\c.to.getD j 0=(y:Int)
 al:∀i j:Nat,i<k\/(i=k/\j<h)->j<c.fr.length->c.fr.getD j 0=ob.getD i 0->[(i:Int),(j:Int)]∈L.getD (c.to.getD j 0).toNat []
 sz:∀y,(L.getD y []).length<=k*c.fr.length+h
theorem fH.zero{c:aA}{ob:List Int}:fH c ob 0 0 (List.replicate c.ob.toNat []):=by
 have hg:∀y,(List.replicate c.ob.toNat ([]:List (List Int))).getD y []=[]:=fun y=>by
  rw[List.getD_eq_getElem?_getD,List.getElem?_replicate];split<;>rfl
 refine⟨List.length_replicate,fun y r hr=>?_,fun i j hij=>?_,fun y=>?_⟩
 ·rw[hg] at hr;cases hr
 ·rcases hij with hij | ⟨_,hij⟩<;>exact absurd hij (Nat.not_lt_zero _)
 ·rw[hg];exact Nat.zero_le _
theorem fH.Pm{c:aA}{ob:List Int}{k h:Nat}{L:List (List (List Int))}(hI:fH c ob k h L)(he:c.fr.getD h 0≠ob.getD k 0):fH c ob k (h+1) L:=by
 refine⟨hI.len,hI.el,fun i j hij hj hf=>?_,fun y=>Nat.le_succ_of_le (hI.sz y)⟩;by_cases hk:i=k/\j=h
 ·obtain⟨rfl,rfl⟩:=hk;exact absurd hf he
 ·exact hI.al i j (by omega) hj hf
theorem fH.next{c:aA}{ob:List Int}{k:Nat}{L:List (List (List Int))}(hI:fH c ob k c.fr.length L):fH c ob (k+1) 0 L:=by
 refine⟨hI.len,hI.el,fun i j hij hj hf=>hI.al i j (by omega) hj hf,fun y=>?_⟩;have:=hI.sz y;rw[Nat.succ_mul];omega
theorem fH.hit{c:aA}{ob:List Int}{k h t:Nat}{L:List (List (List Int))}(hI:fH c ob k h L)(hk:k<ob.length)(hh:h<c.fr.length)(he:c.fr.getD h 0=ob.getD k 0)(ht:c.to.getD h 0=(t:Int))(htl:t<L.length) :
  fH c ob k (h+1) (L.set t (L.getD t []++[[(k:Int),(h:Int)]])):=by
 refine⟨by rw[List.length_set];exact hI.len,fun y r hr=>?_,fun i j hij hj hf=>?_,fun y=>?_⟩
 ·rw[oG htl] at hr
  split at hr
  ·rename_i hyt
   subst hyt;rcases List.mem_append.1 hr with hr | hr
   ·exact hI.el y r hr
   ·rw[List.mem_singleton] at hr;subst hr
    exact⟨k,h,rfl,hk,hh,he,ht⟩
  ·exact hI.el y r hr
 ·rw[oG htl]
  by_cases hkh:i=k/\j=h
  ·obtain⟨rfl,rfl⟩:=hkh
   rw[if_pos (by omega)];simp
  ·have:=hI.al i j (by omega) hj hf
   split
   ·rename_i hy
    rw[hy] at this;exact List.mem_append_left _ this
   ·exact this
 ·rw[oG htl]
  split
  ·have:=hI.sz t
   rw[List.length_append,List.length_singleton];omega
  ·have:=hI.sz y;omega
theorem fH.step{c:aA}(hc:c.Shape){ob:List Int}{L:List (List (List Int))}(hI:fH c ob ob.length 0 L){a:Nat}(ha:a<c.fr.length){e:Nat}(he:e<(L.getD (c.fr.getD a 0).toNat []).length) :
  ∃(i j:Nat),(L.getD (c.fr.getD a 0).toNat []).getD e []=[(i:Int),(j:Int)]/\j<c.fr.length/\0<=ot (L.getD (c.to.getD a 0).toNat []) [(i:Int),c.dx j a]/\ot (L.getD (c.to.getD a 0).toNat []) [(i:Int),c.dx j a]<(L.getD (c.to.getD a 0).toNat []).length:=by
 have hm:(L.getD (c.fr.getD a 0).toNat []).getD e []∈L.getD (c.fr.getD a 0).toNat []:=by rw[aS he];exact List.getElem_mem _
 obtain⟨i,j,h1,h2,h3,h4,h5⟩:=hI.el _ _ hm;have hf:=hc.l7 ha;have ht:=hc.ni ha;obtain⟨c1,c2,c3,c4⟩:=hc.sW h3 ha (by omega);obtain⟨m,hm⟩:∃m:Nat,c.dx j a=m:=⟨(c.dx j a).toNat,by omega⟩;rw[hm,Int.toNat_natCast] at c3 c4;have hin:=hI.al i m (.inl h2) (by omega) (by rw[c3,h4]);rw[c4] at hin;refine⟨i,j,h1,h3,?_⟩;rw[hm];have hl:=List.findIdx_lt_length_of_exists (p:=(·== [(i:Int),(m:Int)])) ⟨_,hin,by simp⟩;unfold ot;rw[if_pos hl];exact⟨by omega,by omega⟩
end Go.D3
namespace Go.D3
open Go
theorem Mj{L:List Int}:(fk (gx L)).length<=(fk L).length:=by
 have hQ:=wQ (L:=L)
 have e:gx L=L.map fun v=>(gx L).getD (L.findIdx (·== v)) 0:=by
  apply List.ext_getElem
  ·rw[List.length_map,hQ.len]
  ·intro i h1 h2
   rw[List.length_map] at h2;have hx:L.findIdx (·== L[i])<L.length:=List.findIdx_lt_length_of_exists ⟨_,List.getElem_mem h2,by simp⟩;have hg:=List.findIdx_getElem (w:=hx);have:=(hQ.eq i (L.findIdx (·== L[i])) h2 hx).2 (by rw[aS h2,aS hx];exact(eq_of_beq hg).symm);rw[List.getElem_map,<-this,aS h1]
 rw[e];exact Vz
structure lK(f:Sf)(cl:List (List Int)):Prop where
 len:cl.length=f.sz.length
 row:∀x,x<f.sz.length->((cl.getD x []).length:Int)=f.sz.getD x 0
 eL:∀x i,x<f.sz.length->i<(cl.getD x []).length->0<=(cl.getD x []).getD i 0/\(cl.getD x []).getD i 0<f.sz.getD x 0
def gZ(cl:List (List Int)):Nat:=(cl.map fun l=>(fk l).length).sum
theorem PV{cl:List (List Int)}{y:Nat}{q:List Int}(hy:y<cl.length)(h:(fk q).length<(fk (cl.getD y [])).length):gZ (cl.set y q)<gZ cl:=by
 unfold gZ;induction cl generalizing y with
 | nil=>cases hy
 | cons x cl ih =>
  cases y with
  | zero =>
   simp only[List.set_cons_zero,List.map_cons,List.sum_cons,List.getD_cons_zero] at h|-
   omega
  | succ y =>
   have:=ih (y:=y) (by simpa using hy) (by simpa using h);simp only[List.set_cons_succ,List.map_cons,List.sum_cons];omega
theorem E1{n:Nat}{P:List (List Int)}:(gx (bT (cC n) P)).length=n/\∀i,i<n->0<=(gx (bT (cC n) P)).getD i 0/\(gx (bT (cC n) P)).getD i 0<n:=by
 have hQ:=wQ (L:=bT (cC n) P);have hl:(bT (cC n) P).length=n:=by rw[pA,iV]
 exact⟨by rw[hQ.len,hl],fun i hi=>by have:=hQ.ge i (by omega);omega⟩
theorem lK.set{f:Sf}{cl:List (List Int)}(h:lK f cl){y:Nat}(hy:y<f.sz.length){n:Nat}(hn:f.sz.getD y 0=n){P:List (List Int)}:lK f (cl.set y (gx (bT (cC n) P))):=by
 obtain⟨j1,j2⟩:=E1 (n:=n) (P:=P);have hl:=h.len;refine⟨by rw[List.length_set,hl],fun x hx=>?_,fun x i hx hi=>?_⟩
 ·rw[oG (by omega)]
  split
  ·rename_i e;rw[j1,e,hn]
  ·exact h.row x hx
 ·rw[oG (by omega)] at hi|-
  split
  ·rename_i e
   rw[if_pos e,j1] at hi;have:=j2 i hi;rw[e,hn];omega
  ·rename_i e
   rw[if_neg e] at hi;exact h.eL x i hx hi
theorem M4{cl:List (List Int)}{y:Nat}(hy:y<cl.length){u v:Nat}(hu:u<(cl.getD y []).length)(hv:v<(cl.getD y []).length)(hn:(cl.getD y []).getD u 0≠(cl.getD y []).getD v 0) :
  gZ (cl.set y (gx (bT (cC (cl.getD y []).length) (hY (cl.getD y []) (cl.getD y []).length++[[(u:Int),(v:Int)]]))))<gZ cl:=by
 refine PV hy (Nat.lt_of_le_of_lt Mj ?_);generalize cl.getD y []=p at hu hv hn;refine M6 (k:=fun x=>p.findIdx (·== x)) (fun i hi=>?_) (fun i hi=>?_) hu hv hn (by simp) ?_
 ·rw[aS hi]
  exact List.findIdx_lt_length_of_exists ⟨_,List.getElem_mem hi,by simp⟩
 ·refine List.mem_append_left _ (List.mem_map.2 ⟨i,List.mem_range.2 hi,?_⟩)
  have hl:p.findIdx (·== p.getD i 0)<p.length:=by
   rw[aS hi];exact List.findIdx_lt_length_of_exists ⟨_,List.getElem_mem hi,by simp⟩
  unfold gD;rw[if_pos hl]
 ·rw[iV]
theorem M5{p:List Int}{u v:Nat}(hu:u<p.length)(hv:v<p.length):∀k,k<(hY p p.length++[[(u:Int),(v:Int)]]).length->∃a b:Nat,(hY p p.length++[[(u:Int),(v:Int)]]).getD k []=[(a:Int),(b:Int)]/\a<p.length/\b<p.length:=fun k hk=>by
 rw[eG (by rw[List.length_append,List.length_singleton] at hk;omega)];split
 ·exact⟨u,v,rfl,hu,hv⟩
 ·rename_i hne
  rw[List.length_append,List.length_singleton,rA] at hk;rw[rA] at hne;have hk2:k<p.length:=by omega
  have hl:p.findIdx (·== p.getD k 0)<p.length:=by
   rw[aS hk2];exact List.findIdx_lt_length_of_exists ⟨_,List.getElem_mem hk2,by simp⟩
  refine⟨p.findIdx (·== p.getD k 0),k,?_,hl,hk2⟩;unfold hY;rw[List.getD_eq_getElem?_getD,List.getElem?_map,List.getElem?_range hk2];show[gD p (p.getD k 0),(k:Int)]=_;unfold gD;rw[if_pos hl]
end Go.D3
