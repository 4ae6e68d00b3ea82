/- CONTRACTS: places,order and composites of paths,the reference's side. -/
import Derived.Test.YtpjbamibcngihaaGreatDoorGAZ
import Derived.Test.YtpjbamibcngihaaGreatDoorGAL
namespace Go.D3
open Go
def dD(l:List Int)(a b:Int):List Int:=l.map fun x=>if x=b then a else x
def bM(l:List Int)(P:List (List Int)):List Int:=P.foldl (fun l p=>dD l (l.getD (p.getD 0 0).toNat 0) (l.getD (p.getD 1 0).toNat 0)) l
def eU(l:List Int):List Int:=l.foldl (fun s x=>if x∈s then s else s++[x]) []
theorem OE{l:List Int}{P:List (List Int)}{p:List Int}:bM l (P++[p])=dD (bM l P) ((bM l P).getD (p.getD 0 0).toNat 0) ((bM l P).getD (p.getD 1 0).toNat 0):=by
 unfold bM;rw[List.foldl_append];rfl
theorem gF{l:List Int}{a b:Int}:(dD l a b).length=l.length:=List.length_map _
theorem oM{l:List Int}{P:List (List Int)}:(bM l P).length=l.length:=by
 induction P generalizing l with
 | nil=>rfl
 | cons p P ih=>show(bM _ P).length=_;rw[ih,gF]
theorem oK{l:List Int}{a b:Int}{i:Nat}(h:i<l.length):(dD l a b).getD i 0=if l.getD i 0=b then a else l.getD i 0:=by
 rw[aS (by rw[gF];exact h),aS h];unfold dD;rw[List.getElem_map]
theorem Qm{l:List Int}{a b:Int}{i j:Nat}(hi:i<l.length)(hj:j<l.length)(h:l.getD i 0=l.getD j 0):(dD l a b).getD i 0=(dD l a b).getD j 0:=by
 rw[oK hi,oK hj,h]
theorem RQ{P:List (List Int)}:∀{l:List Int}{i j:Nat},i<l.length->j<l.length->l.getD i 0=l.getD j 0->(bM l P).getD i 0=(bM l P).getD j 0:=by
 induction P with
 | nil=>exact fun _ _ h=>h
 | cons p P ih =>
  intro l i j hi hj h;show(bM (dD _ _ _) P).getD i 0=(bM (dD _ _ _) P).getD j 0;exact ih (by rw[gF];exact hi) (by rw[gF];exact hj) (Qm hi hj h)
theorem yf{P:List (List Int)}:∀{l:List Int}{p:List Int}{i j:Nat},p∈P->p.getD 0 0=i->p.getD 1 0=j->i<l.length->j<l.length->(bM l P).getD i 0=(bM l P).getD j 0:=by
 induction P with
 | nil=>intro l p i j h;cases h
 | cons q P ih =>
  intro l p i j hp h0 h1 hi hj;show(bM (dD _ _ _) P).getD i 0=(bM (dD _ _ _) P).getD j 0;rcases List.mem_cons.1 hp with rfl | hp
  ·refine RQ (by rw[gF];exact hi) (by rw[gF];exact hj) ?_
   rw[oK hi,oK hj,h0,h1,Int.toNat_natCast,Int.toNat_natCast,if_pos rfl];split<;>rfl
  ·exact ih hp h0 h1 (by rw[gF];exact hi) (by rw[gF];exact hj)
theorem Jd{l:List Int}:∀{s:List Int},s.Nodup->(l.foldl (fun s x=>if x∈s then s else s++[x]) s).Nodup/\∀x,x∈l.foldl (fun s x=>if x∈s then s else s++[x]) s↔x∈s\/x∈l:=by
 induction l with
 | nil=>exact fun h=>⟨h,fun x=>by simp⟩
 | cons y l ih =>
  intro s h;rw[List.foldl_cons];by_cases hy:y∈s
  ·rw[if_pos hy]
   refine⟨(ih h).1,fun x=>?_⟩;rw[(ih h).2 x,List.mem_cons];constructor
   ·rintro(h1 | h1)
    ·exact .inl h1
    ·exact .inr (.inr h1)
   ·rintro(h1 | rfl | h1)
    ·exact .inl h1
    ·exact .inl hy
    ·exact .inr h1
  ·rw[if_neg hy]
   have h2:(s++[y]).Nodup:=by
    rw[List.nodup_append];refine⟨h,by simp,fun a ha b hb=>?_⟩;rw[List.mem_singleton] at hb;subst hb;exact fun h3=>hy (h3▸ha)
   refine⟨(ih h2).1,fun x=>?_⟩;rw[(ih h2).2 x,List.mem_append,List.mem_singleton,List.mem_cons,or_assoc]
theorem ER{l:List Int}:(eU l).Nodup:=(Jd List.nodup_nil).1
theorem oW{l:List Int}{x:Int}:x∈eU l↔x∈l:=by
 have:=(Jd (l:=l) List.nodup_nil).2 x;unfold eU;rw[this];exact⟨fun h=>h.resolve_left (by simp),.inr⟩
theorem s6:∀{A B:List Int},A.Nodup->(∀x∈A,x∈B)->A.length<=B.length
 | [],_,_,_=>Nat.zero_le _
 | x::A,B,h,hs=>by
  rw[List.nodup_cons] at h;have hx:=hs x List.mem_cons_self;have:=s6 (A:=A) (B:=B.erase x) h.2 fun y hy=>(List.mem_erase_of_ne (show y≠x from fun e=>h.1 (by rw[<-e];exact hy))).2 (hs y (List.mem_cons_of_mem _ hy))
  rw[List.length_erase_of_mem hx] at this;have:=List.length_pos_of_mem hx;rw[List.length_cons];omega
theorem tz{l:List Int}{i:Nat}(h:i<l.length):l.getD i 0∈l:=by rw[aS h];exact List.getElem_mem _
theorem Tl{p q:List Int}(hl:q.length=p.length)(h:∀i j,i<p.length->j<p.length->p.getD i 0=p.getD j 0->q.getD i 0=q.getD j 0){u v:Nat}(hu:u<p.length)(hv:v<p.length)(hn:p.getD u 0≠p.getD v 0)(he:q.getD u 0=q.getD v 0):(eU q).length<(eU p).length:=by
 have hg:∀i,i<p.length->q.getD (p.findIdx (·== p.getD i 0)) 0=q.getD i 0:=fun i hi=>by
  have h1:p.findIdx (·== p.getD i 0)<p.length:=List.findIdx_lt_length_of_exists ⟨_,tz hi,by simp⟩
  have h2:p.getD (p.findIdx (·== p.getD i 0)) 0=p.getD i 0:=by
   rw[aS h1];have:=List.findIdx_getElem (w:=h1);simpa using this
  exact h _ _ h1 hi h2
 have hm:p.getD v 0∈eU p:=oW.2 (tz hv)
 have hle:(eU q).length<=(((eU p).erase (p.getD v 0)).map fun x=>q.getD (p.findIdx (·== x)) 0).length:=by
  refine s6 ER fun x hx=>?_
  obtain⟨i,hi,rfl⟩:=List.getElem_of_mem (oW.1 hx);rw[<-aS (d:=0) hi,List.mem_map];by_cases hc:p.getD i 0=p.getD v 0
  ·refine⟨p.getD u 0,(List.mem_erase_of_ne hn).2 (oW.2 (tz hu)),?_⟩
   rw[hg u hu,he];exact(h i v (by omega) hv hc).symm
  ·exact⟨p.getD i 0,(List.mem_erase_of_ne hc).2 (oW.2 (tz (by omega))),hg i (by omega)⟩
 rw[List.length_map,List.length_erase_of_mem hm] at hle;have:=List.length_pos_of_mem hm;omega
theorem Qq{q:List Int}{g:Int->Int}:(eU (q.map g)).length<=(eU q).length:=by
 have:=s6 (A:=eU (q.map g)) (B:=(eU q).map g) ER fun x hx=>by
  obtain⟨y,hy,rfl⟩:=List.mem_map.1 (oW.1 hx);exact List.mem_map.2 ⟨y,oW.2 hy,rfl⟩
 rwa [List.length_map] at this
theorem Qa{p l:List Int}{P:List (List Int)}{k:Int->Nat}(hk:∀i,i<p.length->k (p.getD i 0)<p.length)(hP:∀i,i<p.length->[(k (p.getD i 0):Int),(i:Int)]∈P){u v:Nat}(hu:u<p.length)(hv:v<p.length)(hn:p.getD u 0≠p.getD v 0)(huv:[(u:Int),(v:Int)]∈P)(hl:l.length=p.length) :
  (eU (bM l P)).length<(eU p).length:=by
 refine Tl (by rw[oM,hl]) (fun i j hi hj e=>?_) hu hv hn (yf huv rfl rfl (by omega) (by omega));have a:=yf (l:=l) (hP i hi) rfl rfl (by have:=hk i hi;omega) (by omega);have b:=yf (l:=l) (hP j hj) rfl rfl (by have:=hk j hj;omega) (by omega);rw[e] at a;exact a.symm.trans b
end Go.D3
namespace Go.D3
open Go
theorem PT{n:Nat}{β:Type}{φ:Nat->β}{l:List Int}{a b:Nat}(hl:l.length=n)(h:∀i,i<n->∃m:Nat,m<n/\l.getD i 0=m/\φ m=φ i)(ha:a<n)(hb:b<n)(hab:φ a=φ b) :
  ∀i,i<n->∃m:Nat,m<n/\(dD l (l.getD a 0) (l.getD b 0)).getD i 0=m/\φ m=φ i:=fun i hi=>by
 rw[oK (by omega)];obtain⟨m,m1,m2,m3⟩:=h i hi;obtain⟨x,x1,x2,x3⟩:=h a ha;obtain⟨y,y1,y2,y3⟩:=h b hb;split
 ·rename_i e
  refine⟨x,x1,x2,?_⟩;have:m=y:=by omega
  rw[x3,hab,<-y3,<-this,m3]
 ·exact⟨m,m1,m2,m3⟩
theorem yS{n:Nat}{β:Type}{φ:Nat->β}:∀{P:List (List Int)}{l:List Int},l.length=n->(∀i,i<n->∃m:Nat,m<n/\l.getD i 0=m/\φ m=φ i) ->
  (∀p∈P,∃a b:Nat,a<n/\b<n/\p.getD 0 0=a/\p.getD 1 0=b/\φ a=φ b)->∀i,i<n->∃m:Nat,m<n/\(bM l P).getD i 0=m/\φ m=φ i
 | [],l,hl,h,_=>h
 | p::P,l,hl,h,hP=>by
  obtain⟨a,b,ha,hb,h0,h1,hab⟩:=hP p List.mem_cons_self;show ∀i,i<n->∃m:Nat,m<n/\(bM (dD l _ _) P).getD i 0=m/\φ m=φ i;rw[h0,h1,Int.toNat_natCast,Int.toNat_natCast];exact yS (by rw[gF,hl]) (PT hl h ha hb hab) fun q hq=>hP q (List.mem_cons_of_mem _ hq)
structure fR(L:List Int)(i:Nat)(seen out:List Int):Prop where
 nd:seen.Nodup
 len:out.length=i
 o:∀j,j<i->∃k:Nat,k<seen.length/\out.getD j 0=k/\seen.getD k 0=L.getD j 0
 s:∀k:Nat,k<seen.length->∃j,j<i/\out.getD j 0=k
 f:∀j (m:Nat),j<i->(∀q,q<j->out.getD q 0<m)->out.getD j 0<=m
theorem ek{α:Type}{l:List α}{x d:α}{j:Nat}(h:j<=l.length):(l++[x]).getD j d=if j=l.length then x else l.getD j d:=by
 rw[List.getD_eq_getElem?_getD,List.getD_eq_getElem?_getD];by_cases e:j=l.length
 ·rw[if_pos e,List.getElem?_append_right (by omega),show j-l.length=0 by omega];rfl
 ·rw[if_neg e,List.getElem?_append_left (by omega)]
theorem fR.zero{L:List Int}:fR L 0 [] []:=⟨List.nodup_nil,rfl,fun _ hj=>absurd hj (Nat.not_lt_zero _),fun _ hk=>absurd hk (Nat.not_lt_zero _),fun _ _ hj=>absurd hj (Nat.not_lt_zero _)⟩
theorem fR.le{L:List Int}{i:Nat}{seen out:List Int}(h:fR L i seen out){m:Nat}(hm:∀q,q<i->out.getD q 0<m):seen.length<=m:=by
 cases hl:seen.length with
 | zero=>omega
 | succ k =>
  obtain⟨j,h1,h2⟩:=h.s k (by omega);have:=hm j h1;omega
theorem fR.old{L:List Int}{i:Nat}{seen out:List Int}(h:fR L i seen out){k:Nat}(hk:k<seen.length)(hx:seen.getD k 0=L.getD i 0):fR L (i+1) seen (out++[(k:Int)]):=by
 have hl:=h.len;have hlt:∀{j},j<i->(out++[(k:Int)]).getD j 0=out.getD j 0:=fun hj=>by rw[ek (by omega),if_neg (by omega)]
 have he:(out++[(k:Int)]).getD i 0=k:=by rw[ek (by omega),if_pos hl.symm]
 refine⟨h.nd,by rw[List.length_append,hl];rfl,fun j hj=>?_,fun k' hk'=>?_,fun j m hj hm=>?_⟩
 ·by_cases hji:j<i
  ·rw[hlt hji];exact h.o j hji
  ·rw[show j=i by omega,he];exact⟨k,hk,rfl,hx⟩
 ·obtain⟨j,h1,h2⟩:=h.s k' hk'
  exact⟨j,by omega,by rw[hlt h1,h2]⟩
 ·by_cases hji:j<i
  ·rw[hlt hji]
   exact h.f j m hji fun q hq=>by have:=hm q hq;rwa [hlt (by omega)] at this
  ·obtain rfl:j=i:=by omega
   rw[he];have:=h.le (m:=m) fun q hq=>by have:=hm q hq;rwa [hlt hq] at this
   omega
theorem fR.new{L:List Int}{i:Nat}{seen out:List Int}(h:fR L i seen out)(hx:L.getD i 0 ∉ seen):fR L (i+1) (seen++[L.getD i 0]) (out++[(seen.length:Int)]):=by
 have hl:=h.len;have hlt:∀{j},j<i->(out++[(seen.length:Int)]).getD j 0=out.getD j 0:=fun hj=>by rw[ek (by omega),if_neg (by omega)]
 have he:(out++[(seen.length:Int)]).getD i 0=seen.length:=by rw[ek (by omega),if_pos hl.symm]
 refine⟨?_,by rw[List.length_append,hl];rfl,fun j hj=>?_,fun k' hk'=>?_,fun j m hj hm=>?_⟩
 ·rw[List.nodup_append]
  refine⟨h.nd,by simp,fun a ha b hb=>?_⟩;rw[List.mem_singleton] at hb;rintro rfl;exact hx (hb▸ha)
 ·by_cases hji:j<i
  ·rw[hlt hji]
   obtain⟨k,k1,k2,k3⟩:=h.o j hji;exact⟨k,by rw[List.length_append];omega,k2,by rw[ek (by omega),if_neg (by omega),k3]⟩
  ·rw[show j=i by omega,he]
   exact⟨seen.length,by rw[List.length_append];exact Nat.lt_succ_self _,rfl,by rw[ek (Nat.le_refl _),if_pos rfl]⟩
 ·rw[List.length_append,List.length_singleton] at hk'
  by_cases hk:k'<seen.length
  ·obtain⟨j,h1,h2⟩:=h.s k' hk
   exact⟨j,by omega,by rw[hlt h1,h2]⟩
  ·exact⟨i,by omega,by rw[he];omega⟩
 ·by_cases hji:j<i
  ·rw[hlt hji]
   exact h.f j m hji fun q hq=>by have:=hm q hq;rwa [hlt (by omega)] at this
  ·obtain rfl:j=i:=by omega
   rw[he];have:=h.le (m:=m) fun q hq=>by have:=hm q hq;rwa [hlt hq] at this
   omega
def pO(p:List Int×List Int)(x:Int):List Int×List Int:=if gu p.1 x<0 then(p.1++[x],p.2++[(p.1.length:Int)]) else(p.1,p.2++[gu p.1 x])
def jq(l:List Int):List Int×List Int:=l.foldl pO ([],[])
theorem FU{l:List Int}{x:Int}:jq (l++[x])=pO (jq l) x:=by unfold jq;rw[List.foldl_append];rfl
def gx(l:List Int):List Int:=(jq l).2
theorem R8{l:List Int}{x:Int}(h:¬gu l x<0):∃k:Nat,gu l x=k/\k<l.length/\l.getD k 0=x:=by
 unfold gu at h|-
 by_cases hl:l.findIdx (·== x)<l.length
 ·refine⟨l.findIdx (·== x),by rw[if_pos hl],hl,?_⟩
  have:=List.findIdx_getElem (w:=hl);rw[aS hl];simpa using this
 ·rw[if_neg hl] at h;omega
theorem Sw{l:List Int}{x:Int}(h:gu l x<0):x ∉ l:=fun hm=>by
 unfold gu at h;rw[if_pos (List.findIdx_lt_length_of_exists ⟨x,hm,by simp⟩)] at h;omega
theorem Aj{L:List Int}:∀i,i<=L.length->fR L i (jq (L.take i)).1 (jq (L.take i)).2
 | 0,_=>fR.zero
 | i+1,h=>by
  have ih:=Aj (L:=L) i (by omega);rw[cV (show i<L.length by omega) 0,FU];unfold pO;split
  ·rename_i hx;exact ih.new (Sw hx)
  ·rename_i hx
   obtain⟨k,h1,h2,h3⟩:=R8 hx;rw[h1];exact ih.old h2 h3
structure pt(L out:List Int):Prop where
 len:out.length=L.length
 ge:∀i,i<L.length->0<=out.getD i 0/\out.getD i 0<L.length
 f:∀i (m:Nat),i<L.length->(∀q,q<i->out.getD q 0<m)->out.getD i 0<=m
 eq:∀i j,i<L.length->j<L.length->(out.getD i 0=out.getD j 0↔L.getD i 0=L.getD j 0)
theorem Pj{l:List Int}(h:l.Nodup){a b:Nat}(ha:a<l.length)(hb:b<l.length)(e:l.getD a 0=l.getD b 0):a=b:=by
 rw[aS ha,aS hb] at e;exact(List.getElem_inj h).1 e
theorem fR.sle{L:List Int}{i:Nat}{seen out:List Int}(h:fR L i seen out)(hi:i<=L.length):seen.length<=i:=by
 have:seen.length<=(L.take i).length:=s6 h.nd fun x hx=>by
  obtain⟨k,hk,rfl⟩:=List.getElem_of_mem hx;obtain⟨j,h3,h4⟩:=h.s k hk;obtain⟨k',h5,h6,h7⟩:=h.o j h3;rw[<-aS (d:=0) hk,show k=k' by omega,h7,aS (show j<L.length by omega)];exact List.mem_take_iff_getElem.2 ⟨j,by omega,rfl⟩
 rw[List.length_take] at this;omega
theorem fR.done{L seen out:List Int}(h:fR L L.length seen out):pt L out:=by
 refine⟨h.len,fun i hi=>?_,h.f,fun i j hi hj=>?_⟩
 ·obtain⟨k,h1,h2,_⟩:=h.o i hi
  refine⟨by omega,?_⟩;have:=h.sle (Nat.le_refl _);omega
 ·obtain⟨a,a1,a2,a3⟩:=h.o i hi
  obtain⟨b,b1,b2,b3⟩:=h.o j hj;rw[a2,b2,<-a3,<-b3];exact⟨fun e=>by rw[show a=b by omega],fun e=>by rw[Pj h.nd a1 b1 e]⟩
theorem A5{L:List Int}:pt L (gx L):=by
 have:=Aj (L:=L) L.length (Nat.le_refl _);rw[List.take_length] at this;exact this.done
theorem Gd{n:Nat}{β:Type}{φ:Nat->β}(i:Nat)(hi:i<n):∃m:Nat,m<n/\(((List.range n).map fun j:Nat=>(j:Int))).getD i 0=m/\φ m=φ i :=
 ⟨i,hi,by rw[List.getD_eq_getElem?_getD,List.getElem?_map,List.getElem?_range hi];rfl,rfl⟩
def ch(n:Nat):List Int:=(List.range n).map fun j:Nat=>(j:Int)
theorem iB{n:Nat}:(ch n).length=n:=by simp[ch]
theorem pt.same{n:Nat}{P:List (List Int)}{out:List Int}(h:pt (bM (ch n) P) out){β:Type}(φ:Nat->β)(hP:∀p∈P,∃a b:Nat,a<n/\b<n/\p.getD 0 0=a/\p.getD 1 0=b/\φ a=φ b)
  {i j:Nat} (hi:i<n) (hj:j<n) (e:out.getD i 0=out.getD j 0):φ i=φ j:=by
 have hl:(bM (ch n) P).length=n:=by rw[oM,iB]
 rw[h.eq i j (by omega) (by omega)] at e;obtain⟨a,_,a1,a2⟩:=yS (φ:=φ) iB Gd hP i hi;obtain⟨b,_,b1,b2⟩:=yS (φ:=φ) iB Gd hP j hj;rw[<-a2,<-b2,show a=b by omega]
end Go.D3
namespace Go.D3
open Go
theorem kM{fr to:List Int}:∀{l m:List Int}{x:Int},bD fr to x (l++m)=(bD fr to x l).bind fun y=>bD fr to y m
 | [],m,x=>rfl
 | e::l,m,x=>by
  rw[List.cons_append,bD,bD];split
  ·exact kM
  ·rfl
theorem T0{fr to:List Int}{x:Int}{e:Nat}(he:e<fr.length)(hx:fr.getD e 0=x):bD fr to x [(e:Int)]=some (to.getD e 0):=by
 rw[bD,if_pos]
 ·rfl
 ·simp only[aL,Bool.and_eq_true,decide_eq_true_eq,beq_iff_eq,Int.toNat_natCast]
  exact⟨by omega,hx⟩
theorem dK{s:aa}{p:U}{y:Int}:s.aU p=some y↔(0<=p.st/\p.st<=s.nd-1)/\p.ed.length<=6/\bD s.fr s.to p.st p.ed=some y:=by
 unfold aa.aU;rw[<-and_assoc];constructor
 ·intro h
  split at h
  ·rename_i hc
   simp only[aL,Bool.and_eq_true,decide_eq_true_eq] at hc;exact⟨hc,h⟩
  ·cases h
 ·rintro⟨h1,h2⟩
  rw[if_pos (by simp only[aL,Bool.and_eq_true,decide_eq_true_eq];exact h1),h2]
theorem zE{s:aa}{x:Int}(h0 : 0<=x)(h1:x<s.nd):s.aU ⟨x,[]⟩=some x:=dK.2 ⟨⟨h0,by show x<=_;omega⟩,Nat.zero_le _,rfl⟩
theorem zC{s:aa}{p:U}{e:Nat}(h:s.aU p=some (s.fr.getD e 0))(he:e<s.fr.length)(hl:p.ed.length<6):s.aU ⟨p.st,p.ed++[(e:Int)]⟩=some (s.to.getD e 0):=by
 rw[dK] at h|-
 refine⟨h.1,by rw[List.length_append];exact hl,?_⟩;show bD s.fr s.to p.st (p.ed++_)=_;rw[kM,h.2.2];exact T0 he rfl
theorem Qt{s:aa}{x:Int}{l:List Int}{e:Int}{y:Int}(h:s.aU ⟨x,l++[e]⟩=some y):∃k:Nat,e=k/\k<s.fr.length/\s.aU ⟨x,l⟩=some (s.fr.getD k 0):=by
 rw[dK] at h;obtain⟨h1,h2,h3⟩:=h;dsimp only at h1 h2 h3;rw[kM] at h3;cases hf:bD s.fr s.to x l with
 | none=>rw[hf] at h3;cases h3
 | some z =>
  rw[hf,Option.bind_some,bD] at h3;split at h3
  ·rename_i hc
   simp only[aL,Bool.and_eq_true,decide_eq_true_eq,beq_iff_eq] at hc;refine⟨e.toNat,by omega,by omega,dK.2 ⟨h1,?_,?_⟩⟩
   ·show l.length<=6
    rw[List.length_append,List.length_singleton] at h2;omega
   ·show bD s.fr s.to x l=_
    rw[hf,hc.2]
  ·cases h3
structure fX(s:aa)(out:List U)(i:Nat):Prop where
 v:∀p∈out,∃y,s.aU p=some y
 z:∀x:Nat,(x:Int)<s.nd->(⟨x,[]⟩:U)∈out
 c:∀j,j<i->∀e:Nat,e<s.fr.length->(out.getD j U.zero).ed.length<6->s.aU (out.getD j U.zero)=some (s.fr.getD e 0)->(⟨(out.getD j U.zero).st,(out.getD j U.zero).ed++[(e:Int)]⟩:U)∈out
structure kz(s:aa)(out:List U):Prop where
 v:∀p∈out,∃y,s.aU p=some y
 a:∀p y,s.aU p=some y->p∈out
theorem fX.done{s:aa}{out:List U}{i:Nat}(h:fX s out i)(hi:out.length<=i):kz s out:=by
 refine⟨h.v,?_⟩
 have key:∀(n:Nat)(x:Int)(l:List Int),l.length=n->∀y,s.aU ⟨x,l⟩=some y->(⟨x,l⟩:U)∈out:=by
  intro n;induction n with
  | zero =>
   intro x l hl y hy;obtain rfl:=List.length_eq_zero_iff.1 hl;obtain⟨h1,_,_⟩:=dK.1 hy;dsimp only at h1;have:=h.z x.toNat (by omega)
   rwa [show((x.toNat:Nat):Int)=x by omega] at this
  | succ n ih =>
   intro x l hl y hy;have hne:l≠[]:=fun e=>by rw[e] at hl;cases hl
   rw[<-List.dropLast_concat_getLast hne] at hy|-
   obtain⟨k,hk,hk2,hp⟩:=Qt hy;have hm:=ih x l.dropLast (by rw[List.length_dropLast];omega) _ hp;obtain⟨j,hj,hg⟩:=List.getElem_of_mem hm;have hgd:out.getD j U.zero=⟨x,l.dropLast⟩:=by rw[aS hj,hg]
   have h6:=(dK.1 hy).2.1;rw[hk]
   have:=h.c j (by omega) k hk2 (by
    rw[hgd];simp only[List.length_append,List.length_dropLast,List.length_singleton] at h6|-
    omega) (by rw[hgd];exact hp)
   rwa [hgd] at this
 exact fun p y hy=>key _ p.st p.ed rfl y hy
def rR(l:List U)(x:Int)(ed:List Int):Int:=if l.findIdx (fun p=>p.st == x&&p.ed == ed)<l.length then((l.findIdx (fun p=>p.st == x&&p.ed == ed):Nat):Int) else -1
theorem Ao{l:List U}{x:Int}{ed:List Int}(h:(⟨x,ed⟩:U)∈l):∃j:Nat,rR l x ed=j/\j<l.length/\l.getD j U.zero=⟨x,ed⟩:=by
 have hl:l.findIdx (fun p=>p.st == x&&p.ed == ed)<l.length:=List.findIdx_lt_length_of_exists ⟨_,h,by simp⟩;refine⟨_,by unfold rR;rw[if_pos hl],hl,?_⟩;have:=List.findIdx_getElem (w:=hl);rw[<-aS (d:=U.zero) hl] at this;generalize l.getD (l.findIdx (fun p=>p.st == x&&p.ed == ed)) U.zero=q at this;simp only[Bool.and_eq_true,beq_iff_eq] at this;cases q;dsimp only at this;rw[this.1,this.2]
structure uS(s:aa)(list:List U)(cl:List Int):Prop where
 len:cl.length=list.length
 ge:∀i,i<list.length->0<=cl.getD i 0/\cl.getD i 0<list.length
 f:∀i (m:Nat),i<list.length->(∀q,q<i->cl.getD q 0<m)->cl.getD i 0<=m
 same:∀i j,i<list.length->j<list.length->cl.getD i 0=cl.getD j 0->(list.getD i U.zero).st=(list.getD j U.zero).st/\s.aU (list.getD i U.zero)=s.aU (list.getD j U.zero)
theorem Sb{s:aa}{list:List U}{P:List (List Int)}{cl:List Int}(h:pt (bM (ch list.length) P) cl)
  (hP:∀p∈P,∃a b:Nat,a<list.length/\b<list.length/\p.getD 0 0=a/\p.getD 1 0=b/\(list.getD a U.zero).st=(list.getD b U.zero).st/\s.aU (list.getD a U.zero)=s.aU (list.getD b U.zero)):uS s list cl:=by
 have hl:(bM (ch list.length) P).length=list.length:=by rw[oM,iB]
 refine⟨by rw[h.len,hl],fun i hi=>by have:=h.ge i (by omega);rwa [hl] at this,fun i m hi=>h.f i m (by omega),fun i j hi hj e=>?_⟩
 have:=h.same (fun i=>((list.getD i U.zero).st,s.aU (list.getD i U.zero))) (fun p hp=>by
  obtain⟨a,b,h1,h2,h3,h4,h5,h6⟩:=hP p hp
  exact⟨a,b,h1,h2,h3,h4,by rw[h5,h6]⟩) hi hj e
 exact⟨congrArg Prod.fst this,congrArg Prod.snd this⟩
structure ij(s:aa)(list:List U)(cl:List Int)(i:Nat)(least:List U):Prop where
 lt:∀j,j<i->cl.getD j 0<least.length
 ex:∀k,k<least.length->∃j,j<i/\j<list.length/\cl.getD j 0=k/\least.getD k U.zero=list.getD j U.zero
 pW:∀k,k<least.length->(least.getD k U.zero).ed.length<6
theorem ij.zero{s:aa}{list:List U}{cl:List Int}:ij s list cl 0 []:=⟨fun _ hj=>absurd hj (Nat.not_lt_zero _),fun _ hk=>absurd hk (Nat.not_lt_zero _),fun _ hk=>absurd hk (Nat.not_lt_zero _)⟩
theorem ij.old{s:aa}{list:List U}{cl:List Int}{i:Nat}{least:List U}(hc:uS s list cl)(h:ij s list cl i least)(hi:i<list.length)(hn:cl.getD i 0≠least.length):ij s list cl (i+1) least:=by
 refine⟨fun j hj=>?_,fun k hk=>?_,h.pW⟩
 ·by_cases hji:j<i
  ·exact h.lt j hji
  ·rw[show j=i by omega]
   have:=hc.f i least.length hi h.lt;omega
 ·obtain⟨j,h1,h2⟩:=h.ex k hk
  exact⟨j,by omega,h2⟩
theorem ij.new{s:aa}{list:List U}{cl:List Int}{i:Nat}{least:List U}(h:ij s list cl i least)(hi:i<list.length)(he:cl.getD i 0=least.length)(h6:(list.getD i U.zero).ed.length<6):ij s list cl (i+1) (least++[list.getD i U.zero]):=by
 have hlt:∀{k},k<least.length->(least++[list.getD i U.zero]).getD k U.zero=least.getD k U.zero:=fun hk=>by rw[ek (by omega),if_neg (by omega)]
 have hel:(least++[list.getD i U.zero]).getD least.length U.zero=list.getD i U.zero:=by rw[ek (Nat.le_refl _),if_pos rfl]
 refine⟨fun j hj=>?_,fun k hk=>?_,fun k hk=>?_⟩
 ·rw[List.length_append,List.length_singleton]
  by_cases hji:j<i
  ·have:=h.lt j hji;omega
  ·rw[show j=i by omega];omega
 ·rw[List.length_append,List.length_singleton] at hk
  by_cases hkl:k<least.length
  ·obtain⟨j,h1,h2,h3,h4⟩:=h.ex k hkl
   exact⟨j,by omega,h2,h3,by rw[hlt hkl,h4]⟩
  ·obtain rfl:k=least.length:=by omega
   exact⟨i,by omega,hi,he,hel⟩
 ·rw[List.length_append,List.length_singleton] at hk
  by_cases hkl:k<least.length
  ·rw[hlt hkl];exact h.pW k hkl
  ·obtain rfl:k=least.length:=by omega
   rw[hel];exact h6
theorem ij.at'{s:aa}{list:List U}{cl:List Int}{least:List U}(hA:kz s list)(hc:uS s list cl)(h:ij s list cl list.length least){x:Int}{ed:List Int}{y:Int}(hy:s.aU ⟨x,ed⟩=some y) :
  ∃j k:Nat,rR list x ed=j/\j<cl.length/\cl.getD j 0=k/\k<least.length/\(least.getD k U.zero).st=x/\s.aU (least.getD k U.zero)=some y/\(least.getD k U.zero).ed.length<6:=by
 obtain⟨j,h1,h2,h3⟩:=Ao (hA.a _ _ hy);have h4:=(hc.ge j h2).1;have h5:=h.lt j h2;obtain⟨k,hk⟩:∃k:Nat,cl.getD j 0=k:=⟨(cl.getD j 0).toNat,by omega⟩;obtain⟨j',_,h6,h7,h8⟩:=h.ex k (by omega);obtain⟨h9,h10⟩:=hc.same j' j h6 h2 (by rw[h7,hk]);refine⟨j,k,h1,by rw[hc.len];exact h2,hk,by omega,?_,?_,h.pW k (by omega)⟩
 ·rw[h8,h9,h3]
 ·rw[h8,h10,h3,hy]
end Go.D3
namespace Go.D3
open Go
def lZ(i:Nat):List U:=(List.range i).map fun x:Nat=>⟨x,[]⟩
theorem EC{i:Nat}:(lZ i).length=i:=by simp[lZ]
theorem Nw{i:Nat}:lZ (i+1)=lZ i++[⟨i,[]⟩]:=by unfold lZ;rw[List.range_succ,List.map_append];rfl
theorem QS{s:aa}(hs:dT s):fX s (lZ s.nd.toNat) 0:=by
 have h0:=hs.n0;refine⟨fun p hp=>?_,fun x hx=>?_,fun j hj=>by omega⟩
 ·obtain⟨x,hx,rfl⟩:=List.mem_map.1 hp
  rw[List.mem_range] at hx;exact⟨x,zE (by omega) (by omega)⟩
 ·exact List.mem_map.2 ⟨x,List.mem_range.2 (by omega),rfl⟩
theorem fX.pW{s:aa}{o:List U}{i:Nat}(h:fX s o i)(h6:¬(o.getD i U.zero).ed.length<6):fX s o (i+1):=by
 refine⟨h.v,h.z,fun j hj e he hl hE=>?_⟩;by_cases hji:j<i
 ·exact h.c j hji e he hl hE
 ·rw[show j=i by omega] at hl;exact absurd hl h6
theorem fX.add{s:aa}{o:List U}{i:Nat}(h:fX s o i)(hi:i<=o.length){q:U}{y:Int}(hq:s.aU q=some y):fX s (o++[q]) i:=by
 refine⟨fun p hp=>?_,fun x hx=>List.mem_append_left _ (h.z x hx),fun j hj e he=>?_⟩
 ·rcases List.mem_append.1 hp with hp | hp
  ·exact h.v p hp
  ·rw[List.mem_singleton] at hp;subst hp;exact⟨y,hq⟩
 ·rw[ek (by omega),if_neg (by omega)]
  exact fun hl hE=>List.mem_append_left _ (h.c j hj e he hl hE)
theorem fX.next{s:aa}{o:List U}{i:Nat}(h:fX s o i)(hc:∀e:Nat,e<s.fr.length->s.aU (o.getD i U.zero)=some (s.fr.getD e 0)->(⟨(o.getD i U.zero).st,(o.getD i U.zero).ed++[(e:Int)]⟩:U)∈o):fX s o (i+1):=by
 refine⟨h.v,h.z,fun j hj e he hl hE=>?_⟩;by_cases hji:j<i
 ·exact h.c j hji e he hl hE
 ·obtain rfl:j=i:=by omega
  exact hc e he hE
theorem fX.at'{s:aa}{o:List U}{i j:Nat}(h:fX s o i)(hj:j<o.length):∃y,s.aU (o.getD j U.zero)=some y:=by
 rw[aS hj];exact h.v _ (List.getElem_mem _)
theorem kz.at'{s:aa}{o:List U}{j:Nat}(h:kz s o)(hj:j<o.length):∃y,s.aU (o.getD j U.zero)=some y:=by
 rw[aS hj];exact h.v _ (List.getElem_mem _)
theorem kz.perm{s:aa}{o l:List U}(h:kz s l)(hp:o.Perm l):kz s o:=⟨fun p q=>h.v p (hp.mem_iff.1 q),fun p y hy=>hp.mem_iff.2 (h.a p y hy)⟩
def uz(o:List U)(k:Nat):List U:=(o.set k (o.getD (k-1) U.zero)).set (k-1) (o.getD k U.zero)
theorem OJ{o:List U}{k:Nat}(hk:k<o.length):(uz o k).Perm o:=by
 unfold uz;rw[aS hk,aS (show k-1<o.length by omega)];exact List.set_set_perm hk (by omega)
def Bp(n:Nat)(P:List (List Int)):Prop:=∀p∈P,∃a b:Nat,p=[(a:Int),(b:Int)]/\a<n/\b<n
theorem Bp.get{n:Nat}{P:List (List Int)}(h:Bp n P){k:Nat}(hk:k<P.length):∃a b:Nat,P.getD k []=[(a:Int),(b:Int)]/\a<n/\b<n:=by
 rw[aS hk];exact h _ (List.getElem_mem _)
def jj(s:aa)(list:List U)(P:List (List Int)):Prop:=∀p∈P,∃a b:Nat,p=[(a:Int),(b:Int)]/\a<list.length/\b<list.length/\(list.getD a U.zero).st=(list.getD b U.zero).st/\s.aU (list.getD a U.zero)=s.aU (list.getD b U.zero)
theorem jj.pr{s:aa}{list:List U}{P:List (List Int)}(h:jj s list P):Bp list.length P:=fun p hp=>by
 obtain⟨a,b,h1,h2,h3,_⟩:=h p hp;exact⟨a,b,h1,h2,h3⟩
theorem jj.add{s:aa}{list:List U}{P:List (List Int)}(h:jj s list P){a b:Nat}(ha:a<list.length)(hb:b<list.length)(h1:(list.getD a U.zero).st=(list.getD b U.zero).st)(h2:s.aU (list.getD a U.zero)=s.aU (list.getD b U.zero)) :
  jj s list (P++[[(a:Int),(b:Int)]]):=fun p hp=>by
 rcases List.mem_append.1 hp with hp | hp
 ·exact h p hp
 ·rw[List.mem_singleton] at hp;subst hp;exact⟨a,b,rfl,ha,hb,h1,h2⟩
theorem jj.cls{s:aa}{list:List U}{P:List (List Int)}{cl:List Int}(h:jj s list P)(hj:pt (bM (ch list.length) P) cl):uS s list cl:=Sb hj fun p hp=>by
 obtain⟨a,b,rfl,h1,h2,h3,h4⟩:=h p hp;exact⟨a,b,h1,h2,rfl,rfl,h3,h4⟩
theorem sX{s:aa}{p:U}{y:Int}(h:s.aU p=some y){i:Nat}(hi:i<=p.ed.length):bD s.fr s.to p.st (p.ed.take i)=some (if i=0 then p.st else s.to.getD (p.ed.getD (i-1) 0).toNat 0):=by
 have h3:=(dK.1 h).2.2;rw[<-List.take_append_drop i p.ed,kM] at h3;cases hf:bD s.fr s.to p.st (p.ed.take i) with
 | none=>rw[hf] at h3;cases h3
 | some m =>
  have:=(tM hf).1;rw[this];by_cases hi0:i=0
  ·subst hi0;rfl
  ·have hne:¬p.ed.take i=[]:=fun e=>by
    have:=congrArg List.length e;rw[List.length_take,List.length_nil] at this;omega
   rw[if_neg hne,if_neg hi0];congr 3;rw[List.length_take,Nat.min_eq_left hi,List.getD_eq_getElem?_getD,List.getElem?_take,if_pos (by omega),List.getD_eq_getElem?_getD]
theorem FJ{s:aa}{w p q:U}{y z m:Int}{i:Nat}(hw:s.aU w=some y)(hp:s.aU p=some z)(hq:s.aU q=some z)(aP:p.st=q.st)(hi:i+p.ed.length<=w.ed.length)
  (hm:bD s.fr s.to w.st (w.ed.take i)=some m) (hpm:m=p.st) (hs:(w.ed.take (i+p.ed.length)).drop i=p.ed) (hl:w.ed.length-p.ed.length+q.ed.length<=6) :
  s.aU ⟨w.st,w.ed.take i++q.ed++w.ed.drop (i+p.ed.length)⟩=some y:=by
 obtain⟨h1,h2,h3⟩:=dK.1 hw;refine dK.2 ⟨h1,?_,?_⟩
 ·show(w.ed.take i++q.ed++w.ed.drop _).length<=6
  simp only[List.length_append,List.length_take,List.length_drop];omega
 ·show bD s.fr s.to w.st (w.ed.take i++q.ed++w.ed.drop _)=_
  have e:w.ed=w.ed.take i++p.ed++w.ed.drop (i+p.ed.length):=by
   conv=>lhs;rw[<-List.take_append_drop (i+p.ed.length) w.ed,<-List.take_append_drop i (w.ed.take (i+p.ed.length)),hs,List.take_take,Nat.min_eq_left (by omega)]
  rw[e,List.append_assoc,kM,hm,Option.bind_some,kM,hpm,(dK.1 hp).2.2,Option.bind_some] at h3;rw[List.append_assoc,kM,hm,Option.bind_some,kM,hpm,aP,(dK.1 hq).2.2,Option.bind_some,h3]
end Go.D3
namespace Go.D3
open Go
set_option maxHeartbeats 4000000
set_option maxRecDepth 100000
def gL(p:List Int)(n:Nat):List (List Int):=(List.range n).map fun i:Nat=>[gu p (p.getD i 0),(i:Int)]
theorem qm{p:List Int}{n:Nat}:(gL p n).length=n:=by simp[gL]
theorem NA{p:List Int}{n:Nat}:gL p (n+1)=gL p n++[[gu p (p.getD n 0),(n:Int)]]:=by
 unfold gL;rw[List.range_succ,List.map_append];rfl
theorem Qr{l:List (List Int)}{a b:Int}:(ae ints [] l).dQ [.slice (.int .i64 0) [.int .i64 a,.int .i64 b]]=aK (l++[[a,b]]):=by
 simp only[ae,D.dQ,aK,List.map_append,List.map_cons,List.map_nil]
attribute [go_sem high] Qr
def wP:List Nat:=[0,2,3,4]
def CF:Sl:=ak Go.Proofs.Tryz.types Go.Proofs.Tryz.f151 wP []
theorem Lt:aI Go.Proofs.Tryz.prog Go.Proofs.Tryz.f151 wP CF 1=true:=by decide +kernel
theorem KZ(p:List Int)(hp:p.length<=1048576):aC Go.Proofs.Tryz.prog 151 [.v (ints p)] (aK (gL p p.length)):=by
 refine aT Go.Proofs.Tryz.func151 Lt ?_;unfold CF ak wP;simp only[go_sem];refine aG [] (fun(i:Nat)=>[(2,.o (aK (gL p i))),(3,.int .i64 i)]) (fun i=>i<=p.length) (fun i=>p.length-i) 0 (by simp only[go_sem];rfl) (Nat.zero_le _) rfl ?_;intro i hi;simp only[go_sem];refine⟨fun h=>⟨h,ax (B8 p (p.getD i 0) hp) rfl (.inl rfl) ?_⟩,fun h=>by rw[show i=p.length by omega]⟩;simp only[go_sem];exact⟨by rw[qm];omega,i+1,h,by omega,by rw[aN h (by simp only[maxLen];omega),NA]⟩
def v7:List Nat:=[0,2,3,4,5,6]
def Ci:Sl:=ak Go.Proofs.Tryz.types Go.Proofs.Tryz.f168 v7 []
theorem KV:aI Go.Proofs.Tryz.prog Go.Proofs.Tryz.f168 v7 Ci 1=true:=by decide +kernel
theorem KD(l:List Int)(hl:l.length<=1048576):aC Go.Proofs.Tryz.prog 168 [.v (ints l)] (ints (gx l)):=by
 refine aT Go.Proofs.Tryz.func168 KV ?_;unfold Ci ak v7;simp only[go_sem];refine aG [5] (fun(i:Nat)=>[(2,.o (ints (jq (l.take i)).2)),(3,.o (ints (jq (l.take i)).1)),(4,.int .i64 i)]) (fun i=>i<=l.length) (fun i=>l.length-i) 0 (by simp only[go_sem];rfl) (Nat.zero_le _) rfl ?_;intro i hi;have hI:=Aj (L:=l) i hi;have h1:=hI.len;have h2:=hI.sle hi;simp only[go_sem];refine⟨fun h=>⟨h,ax (B8 _ _ (by omega)) rfl (.inl rfl) ?_⟩,fun h=>?_⟩
 ·have hs:jq (l.take (i+1))=pO (jq (l.take i)) (l.getD i 0):=by rw[cV h 0,FU]
  have hw:=aN h (show l.length<=maxLen by simp only[maxLen];omega);generalize jq (l.take i)=st at hs h1 h2;simp only[go_sem];refine⟨fun hx=>?_,fun hx=>?_⟩
  ·refine⟨h,by omega,by omega,i+1,h,by omega,?_⟩
   rw[hs,pO,if_pos hx,hw]
  ·refine⟨by omega,i+1,h,by omega,?_⟩
   rw[hs,pO,if_neg hx,hw]
 ·rw[List.take_of_length_le (by omega)];rfl
theorem E3{n:Nat}:ch (n+1)=ch n++[(n:Int)]:=by unfold ch;rw[List.range_succ,List.map_append];rfl
theorem Ez{l:List Int}{a b:Int}{i:Nat}(h:i<l.length):((dD l a b).take i++l.drop i).getD i 0=l.getD i 0:=by
 rw[List.getD_eq_getElem?_getD,List.getElem?_append_right (by rw[List.length_take,gF];omega),List.length_take,gF,Nat.min_eq_left (by omega),Nat.sub_self,List.getElem?_drop,Nat.add_zero,List.getD_eq_getElem?_getD]
theorem N1{l:List Int}{a b:Int}{i:Nat}(h:i<l.length):(dD l a b).take (i+1)++l.drop (i+1)=((dD l a b).take i++l.drop i).set i (if l.getD i 0=b then a else l.getD i 0):=by
 have hl:i<(dD l a b).length:=by rw[gF];exact h
 rw[List.drop_eq_getElem_cons h,List.set_append_right _ _ (by rw[List.length_take];omega),List.length_take,Nat.min_eq_left (by omega),Nat.sub_self,List.set_cons_zero,cV hl 0,oK h,List.append_assoc];rfl
def wS:List Nat:=[0,1,4,5,6,7,8,9,10]
def C4:Sl:=ak Go.Proofs.Tryz.types Go.Proofs.Tryz.f147 wS []
theorem Mf:aI Go.Proofs.Tryz.prog Go.Proofs.Tryz.f147 wS C4 2=true:=by decide +kernel
theorem wK(n:Nat)(P:List (List Int))(hn:n<=1048576)(hl:P.length<=1048576)(hP:∀k,k<P.length->∃a b:Nat,P.getD k []=[(a:Int),(b:Int)]/\a<n/\b<n):aC Go.Proofs.Tryz.prog 147 [.v (.int .i64 n),.v (aK P)] (ints (gx (bM (ch n) P))):=by
 refine aT Go.Proofs.Tryz.func147 Mf ?_;unfold C4 ak wS;simp only[go_sem];refine aG [] (fun(i:Nat)=>[(3,.o (ints (ch i))),(4,.int .i64 i)]) (fun i=>i<=n) (fun i=>n-i) 0 (by simp only[go_sem];rfl) (Nat.zero_le _) rfl ?_;intro i hi;simp only[go_sem];refine⟨fun h=>⟨by rw[iB];omega,i+1,by omega,by omega,by rw[aN (show i<n by omega) (by simp only[maxLen];omega),E3]⟩,fun h=>?_⟩;obtain rfl:i=n:=by omega
 refine aG [6,7,8] (fun(k:Nat)=>[(3,.o (ints (bM (ch i) (P.take k)))),(5,.int .i64 k)]) (fun k=>k<=P.length) (fun k=>P.length-k) 0 (by simp only[go_sem];rfl) (Nat.zero_le _) rfl ?_;intro k hk;have hL:(bM (ch i) (P.take k)).length=i:=by rw[oM,iB]
 simp only[go_sem];refine⟨fun h2=>?_,fun h2=>?_⟩
 ·obtain⟨u,v,hp,hu,hv⟩:=hP k h2
  have hs:bM (ch i) (P.take (k+1))=dD (bM (ch i) (P.take k)) ((bM (ch i) (P.take k)).getD u 0) ((bM (ch i) (P.take k)).getD v 0):=by
   rw[cV h2 [],OE,hp];rfl
  have hw:=aN h2 (show P.length<=maxLen by simp only[maxLen];omega);rw[hp];simp only[List.getD_cons_zero,List.getD_cons_succ,Int.toNat_natCast,List.length_cons,List.length_nil];generalize bM (ch i) (P.take k)=L at hs hL;generalize L.getD u 0=x at hs;generalize L.getD v 0=y at hs;refine⟨h2,by omega,by omega,h2,by omega,by omega,?_⟩;refine aG [] (fun(j:Nat)=>[(3,.o (ints ((dD L x y).take j++L.drop j))),(8,.int .i64 j)]) (fun j=>j<=L.length) (fun j=>L.length-j) 0 (by simp only[go_sem];rfl) (Nat.zero_le _) rfl ?_;intro j hj;have hl2:((dD L x y).take j++L.drop j).length=L.length:=by rw[List.length_append,List.length_take,List.length_drop,gF];omega
  simp only[go_sem];simp only[hl2];refine⟨fun h3=>?_,fun h3=>?_⟩
  ·simp only[Bool.and_eq_true,decide_eq_true_eq,bne_iff_ne] at h3
   have aP:=N1 (a:=x) (b:=y) h3.1;have hw2:=aN h3.1 (show L.length<=maxLen by simp only[maxLen];omega);rw[Ez h3.1,hw2];refine⟨h3.1,fun h4=>⟨h3.1,h3.1,j+1,h3.1,by omega,?_⟩,fun h4=>⟨j+1,h3.1,by omega,?_⟩⟩
   ·rw[aP,if_pos h4]
   ·have h4:L.getD j 0≠y:=by simpa using h4
    rw[aP,if_neg h4]
    have e:((dD L x y).take j++L.drop j).set j (L.getD j 0)=(dD L x y).take j++L.drop j:=by
     rw[<-Ez (a:=x) (b:=y) h3.1,aS (by omega),List.set_getElem_self]
    rw[e]
  ·have:(dD L x y).take j++L.drop j=dD L x y:=by
    by_cases hxy:x=y
    ·have:dD L x y=L:=by
      subst hxy;unfold dD
      conv=>rhs;rw[<-List.map_id L]
      refine List.map_congr_left fun z _=>?_
      show(if z=x then x else z)=z;split<;>simp_all
     rw[this,List.take_append_drop]
    ·have:¬j<L.length:=fun h4=>by simp[h4,hxy] at h3
     rw[List.take_of_length_le (by rw[gF];omega),List.drop_of_length_le (by omega),List.append_nil]
   exact⟨k+1,h2,by omega,by rw[hs,this,hw]⟩
 ·rw[List.take_of_length_le (by omega)]
  refine ax (KD _ (by rw[oM,iB];exact hn)) rfl (.inl (cW _)) ?_;simp only[go_sem]
def vX:List Nat:=[0,1,4]
def Cf:Sl:=ak Go.Proofs.Tryz.types Go.Proofs.Tryz.f114 vX []
theorem KM:aI Go.Proofs.Tryz.prog Go.Proofs.Tryz.f114 vX Cf 2=true:=by decide +kernel
theorem KF(n:Nat)(P:List (List Int))(hn:n<=1048576)(hl:P.length<=1048576)(hP:∀k,k<P.length->∃a b:Nat,P.getD k []=[(a:Int),(b:Int)]/\a<n/\b<n):aC Go.Proofs.Tryz.prog 114 [.v (.int .i64 n),.v (aK P)] (ints (gx (bM (ch n) P))):=by
 refine aT Go.Proofs.Tryz.func114 KM ?_;unfold Cf ak vX;simp only[go_sem];refine ax (wK n P hn hl hP) rfl (.inl (cW _)) ?_;simp only[go_sem]
end Go.D3
namespace Go.D3
open Go
set_option maxRecDepth 100000
def wH:List Nat:=[0,1,2,6,7]
def CD:Sl:=ak Go.Proofs.Tryz.types Go.Proofs.Tryz.f116 wH []
theorem Lo:aI Go.Proofs.Tryz.prog Go.Proofs.Tryz.f116 wH CD 3=true:=by decide +kernel
theorem qc(l:List U)(x:Int)(ed:List Int)(hl:l.length<=1048576)(he:∀i,i<l.length->(l.getD i U.zero).ed.length<=1048576) :
  aC Go.Proofs.Tryz.prog 116 [.v (ae U.d U.zero l),.v (.int .i64 x),.v (ints ed)] (.int .i64 (rR l x ed)):=by
 refine aT Go.Proofs.Tryz.func116 Lo ?_;unfold CD ak wH;simp only[go_sem];refine aG [] (fun i:Nat=>[(4,.int .i64 i)]) (fun i=>i<=l.findIdx fun p=>p.st == x&&p.ed == ed) (fun i=>l.length-i) 0 (by simp only[go_sem];rfl) (Nat.zero_le _) rfl ?_;intro i hi;have hfl:=List.findIdx_le_length (p:=fun p:U=>p.st == x&&p.ed == ed) (xs:=l);have hp:rR l x ed=if l.findIdx (fun p=>p.st == x&&p.ed == ed)<l.length then((l.findIdx (fun p=>p.st == x&&p.ed == ed):Nat):Int) else -1:=rfl
 simp only[go_sem];refine⟨fun h1=>⟨h1,fun h2=>⟨h2,h1⟩,bG (fun _=>r9 _ _ (he i h1)) rfl (fun h=>h) (.inl rfl) ?_⟩,fun h1=>?_⟩
 ·simp only[go_sem]
  refine⟨fun h2=>?_,fun h2=>⟨i+1,?_,by omega,by rw[aN h1 (by simp only[maxLen];omega)]⟩⟩
  ·have:l.findIdx (fun p=>p.st == x&&p.ed == ed)<=i:=by
    apply Nat.le_of_not_lt;intro hh;have:=List.not_of_lt_findIdx hh;rw[<-aS (d:=U.zero) h1,h2] at this;cases this
   have e:l.findIdx (fun p=>p.st == x&&p.ed == ed)=i:=by omega
   rw[hp,e,if_pos h1]
  ·by_cases hlt:i<l.findIdx fun p=>p.st == x&&p.ed == ed
   ·omega
   ·have e:l.findIdx (fun p=>p.st == x&&p.ed == ed)=i:=by omega
    have:=List.findIdx_getElem (w:=show l.findIdx (fun p=>p.st == x&&p.ed == ed)<l.length by omega);simp only[e] at this;rw[<-aS (d:=U.zero) h1,h2] at this;cases this
 ·rw[hp,if_neg (by omega)]
def rA(p:U)(y:Int):List Int:=[p.st,y,p.ed.length]++p.ed
def xg:List Nat:=[0,1,2,6,3,4,5,7,8]
def C9:Sl:=ak Go.Proofs.Tryz.types Go.Proofs.Tryz.f146 xg []
theorem LW:aI Go.Proofs.Tryz.prog Go.Proofs.Tryz.f146 xg C9 3=true:=by decide +kernel
theorem LM(s:aa)(p q:U)(y z:Int)(hto:s.to.length=s.fr.length)(hp:s.aU p=some y)(hq:s.aU q=some z):aC Go.Proofs.Tryz.prog 146 [.v (aa.d s),.v (U.d p),.v (U.d q)] (.bool (lexB (rA p y) (rA q z))):=by
 refine aT Go.Proofs.Tryz.func146 LW ?_;unfold C9 ak xg;simp only[go_sem];have h6:=(dK.1 hp).2.1;have h7:=(dK.1 hq).2.1;refine ax (nf s p y hto hp) rfl (.inl rfl) ?_;simp only[go_sem];refine⟨oN _,by rw[List.length_map];omega,ax (nf s q z hto hq) rfl (.inl rfl) ?_⟩;simp only[go_sem];refine⟨oN _,by rw[List.length_map];omega,ax (Lj (rA p y) (rA q z) (by simp only[rA,List.length_append,List.length_cons,List.length_nil];omega)) rfl (.inl rfl) ?_⟩;simp only[go_sem]
def jB:Option U->D
 | some p=>.agg [.int .i64 p.st,.vw (ints p.ed)]
 | none=>.agg [.int .i64 0,ints []]
structure dV where
 c:aA
 ls:List U
 ed:List Int
def dV.cells(x:dV):List D:=[.int .i64 x.c.ob,ints x.c.fr,ints x.c.to,ints x.c.bz,aK x.c.co,ae jB none (x.ls.map some),ints x.ed]
def dV.d(x:dV):D:=.agg x.cells
attribute [go_sem] dV.d.eq_1 dV.cells.eq_1
def dV.arr(x:dV)(p:U)(i:Nat):Int:=(p.ed.take i).foldl (fun h e=>x.c.dq h (x.ed.getD e.toNat 0)) (x.c.ky p.st)
def wy:List Nat:=[0,1,4,2,3,5,6]
def CO:Sl:=ak Go.Proofs.Tryz.types Go.Proofs.Tryz.f119 wy []
theorem LO:aI Go.Proofs.Tryz.prog Go.Proofs.Tryz.f119 wy CO 2=true:=by decide +kernel
theorem K3(x:dV)(p:U)(hs : 0<=p.st/\p.st<x.c.bz.length)(he:∀i,i<p.ed.length->0<=p.ed.getD i 0/\p.ed.getD i 0<x.ed.length)
  (h:∀i,i<p.ed.length->(0<=x.arr p i/\x.arr p i<x.c.co.length)/\0<=x.ed.getD (p.ed.getD i 0).toNat 0/\x.ed.getD (p.ed.getD i 0).toNat 0<(x.c.co.getD (x.arr p i).toNat []).length) (hl:p.ed.length<=1048576) :
  aC Go.Proofs.Tryz.prog 119 [.v (dV.d x),.v (U.d p)] (.int .i64 (x.arr p p.ed.length)):=by
 refine aT Go.Proofs.Tryz.func119 LO ?_;unfold CO ak wy;simp only[go_sem];refine⟨hs,?_⟩;refine aG [] (fun(i:Nat)=>[(5,.int .i64 (x.arr p i)),(6,.int .i64 i)]) (fun i=>i<=p.ed.length) (fun i=>p.ed.length-i) 0 (by simp only[go_sem];rfl) (Nat.zero_le _) rfl ?_;intro i hi;simp only[go_sem];refine⟨fun h1=>?_,fun h1=>by rw[show i=p.ed.length by omega]⟩;obtain⟨h2,h3⟩:=h i h1;refine⟨h2,h1,he i h1,h3,i+1,h1,by omega,?_⟩
 have e:x.arr p (i+1)=(x.c.co.getD (x.arr p i).toNat []).getD (x.ed.getD (p.ed.getD i 0).toNat 0).toNat 0:=by
  unfold dV.arr;rw[cV h1 0,List.foldl_append];rfl
 rw[e,aN h1 (by simp only[maxLen];omega)]
end Go.D3
