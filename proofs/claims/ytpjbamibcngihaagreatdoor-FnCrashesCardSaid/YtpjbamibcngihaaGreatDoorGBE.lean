/- CONTRACTS: places, order and composites of paths, the reference's side. -/
import Derived.Test.YtpjbamibcngihaaGreatDoorGBD
import Derived.Test.YtpjbamibcngihaaGreatDoorGAL
namespace Go.D3
open Go
def dO(l:List Int)(a b:Int):List Int:=l.map fun x=>if x=b then a else x
def bT(l:List Int)(P:List (List Int)):List Int:=P.foldl (fun l p=>dO l (l.getD (p.getD 0 0).toNat 0) (l.getD (p.getD 1 0).toNat 0)) l
def fk(l:List Int):List Int:=l.foldl (fun s x=>if x∈s then s else s++[x]) []
theorem NL{l:List Int}{P:List (List Int)}{p:List Int}:bT l (P++[p])=dO (bT l P) ((bT l P).getD (p.getD 0 0).toNat 0) ((bT l P).getD (p.getD 1 0).toNat 0):=by
 unfold bT;rw[List.foldl_append];rfl
theorem hZ{l:List Int}{a b:Int}:(dO l a b).length=l.length:=List.length_map _
theorem pA{l:List Int}{P:List (List Int)}:(bT l P).length=l.length:=by
 induction P generalizing l with
 | nil=>rfl
 | cons p P ih=>show(bT _ P).length=_;rw[ih,hZ]
theorem pT{l:List Int}{a b:Int}{i:Nat}(h:i<l.length):(dO l a b).getD i 0=if l.getD i 0=b then a else l.getD i 0:=by
 rw[aS (by rw[hZ];exact h),aS h];unfold dO;rw[List.getElem_map]
theorem TL{l:List Int}{a b:Int}{i j:Nat}(hi:i<l.length)(hj:j<l.length)(h:l.getD i 0=l.getD j 0):(dO l a b).getD i 0=(dO l a b).getD j 0:=by
 rw[pT hi,pT hj,h]
theorem NK{P:List (List Int)}:∀{l:List Int}{i j:Nat},i<l.length->j<l.length->l.getD i 0=l.getD j 0->(bT l P).getD i 0=(bT l P).getD j 0:=by
 induction P with
 | nil=>exact fun _ _ h=>h
 | cons p P ih =>
  intro l i j hi hj h;show(bT (dO _ _ _) P).getD i 0=(bT (dO _ _ _) P).getD j 0;exact ih (by rw[hZ];exact hi) (by rw[hZ];exact hj) (TL hi hj h)
theorem xG{P:List (List Int)}:∀{l:List Int}{p:List Int}{i j:Nat},p∈P->p.getD 0 0=i->p.getD 1 0=j->i<l.length->j<l.length->(bT l P).getD i 0=(bT l P).getD j 0:=by
 induction P with
 | nil=>intro l p i j h;cases h
 | cons q P ih =>
  intro l p i j hp h0 h1 hi hj;show(bT (dO _ _ _) P).getD i 0=(bT (dO _ _ _) P).getD j 0;rcases List.mem_cons.1 hp with rfl | hp
  ·refine NK (by rw[hZ];exact hi) (by rw[hZ];exact hj) ?_
   rw[pT hi,pT hj,h0,h1,Int.toNat_natCast,Int.toNat_natCast,if_pos rfl];split<;>rfl
  ·exact ih hp h0 h1 (by rw[hZ];exact hi) (by rw[hZ];exact hj)
theorem Kk{l:List Int}:∀{s:List Int},s.Nodup->(l.foldl (fun s x=>if x∈s then s else s++[x]) s).Nodup/\∀x,x∈l.foldl (fun s x=>if x∈s then s else s++[x]) s↔x∈s\/x∈l:=by
 induction l with
 | nil=>exact fun h=>⟨h,fun x=>by simp⟩
 | cons y l ih =>
  intro s h;rw[List.foldl_cons];by_cases hy:y∈s
  ·rw[if_pos hy]
   refine⟨(ih h).1,fun x=>?_⟩;rw[(ih h).2 x,List.mem_cons];constructor
   ·rintro(h1 | h1)
    ·exact .inl h1
    ·exact .inr (.inr h1)
   ·rintro(h1 | rfl | h1)
    ·exact .inl h1
    ·exact .inl hy
    ·exact .inr h1
  ·rw[if_neg hy]
   have h2:(s++[y]).Nodup:=by
    rw[List.nodup_append];refine⟨h,by simp,fun a ha b hb=>?_⟩;rw[List.mem_singleton] at hb;subst hb;exact fun h3=>hy (h3▸ha)
   refine⟨(ih h2).1,fun x=>?_⟩;rw[(ih h2).2 x,List.mem_append,List.mem_singleton,List.mem_cons,or_assoc]
theorem Kl{l:List Int}:(fk l).Nodup:=(Kk List.nodup_nil).1
theorem p4{l:List Int}{x:Int}:x∈fk l↔x∈l:=by
 have:=(Kk (l:=l) List.nodup_nil).2 x;unfold fk;rw[this];exact⟨fun h=>h.resolve_left (by simp),.inr⟩
theorem um:∀{A B:List Int},A.Nodup->(∀x∈A,x∈B)->A.length<=B.length
 | [],_,_,_=>Nat.zero_le _
 | x::A,B,h,hs=>by
  rw[List.nodup_cons] at h;have hx:=hs x List.mem_cons_self;have:=um (A:=A) (B:=B.erase x) h.2 fun y hy=>(List.mem_erase_of_ne (show y≠x from fun e=>h.1 (by rw[<-e];exact hy))).2 (hs y (List.mem_cons_of_mem _ hy))
  rw[List.length_erase_of_mem hx] at this;have:=List.length_pos_of_mem hx;rw[List.length_cons];omega
theorem tw{l:List Int}{i:Nat}(h:i<l.length):l.getD i 0∈l:=by rw[aS h];exact List.getElem_mem _
theorem M3{p q:List Int}(hl:q.length=p.length)(h:∀i j,i<p.length->j<p.length->p.getD i 0=p.getD j 0->q.getD i 0=q.getD j 0){u v:Nat}(hu:u<p.length)(hv:v<p.length)(hn:p.getD u 0≠p.getD v 0)(he:q.getD u 0=q.getD v 0):(fk q).length<(fk p).length:=by
 have hg:∀i,i<p.length->q.getD (p.findIdx (·== p.getD i 0)) 0=q.getD i 0:=fun i hi=>by
  have h1:p.findIdx (·== p.getD i 0)<p.length:=List.findIdx_lt_length_of_exists ⟨_,tw hi,by simp⟩
  have h2:p.getD (p.findIdx (·== p.getD i 0)) 0=p.getD i 0:=by
   rw[aS h1];have:=List.findIdx_getElem (w:=h1);simpa using this
  exact h _ _ h1 hi h2
 have hm:p.getD v 0∈fk p:=p4.2 (tw hv)
 have hle:(fk q).length<=(((fk p).erase (p.getD v 0)).map fun x=>q.getD (p.findIdx (·== x)) 0).length:=by
  refine um Kl fun x hx=>?_
  obtain⟨i,hi,rfl⟩:=List.getElem_of_mem (p4.1 hx);rw[<-aS (d:=0) hi,List.mem_map];by_cases hc:p.getD i 0=p.getD v 0
  ·refine⟨p.getD u 0,(List.mem_erase_of_ne hn).2 (p4.2 (tw hu)),?_⟩
   rw[hg u hu,he];exact(h i v (by omega) hv hc).symm
  ·exact⟨p.getD i 0,(List.mem_erase_of_ne hc).2 (p4.2 (tw (by omega))),hg i (by omega)⟩
 rw[List.length_map,List.length_erase_of_mem hm] at hle;have:=List.length_pos_of_mem hm;omega
theorem Vz{q:List Int}{g:Int->Int}:(fk (q.map g)).length<=(fk q).length:=by
 have:=um (A:=fk (q.map g)) (B:=(fk q).map g) Kl fun x hx=>by
  obtain⟨y,hy,rfl⟩:=List.mem_map.1 (p4.1 hx);exact List.mem_map.2 ⟨y,p4.2 hy,rfl⟩
 rwa [List.length_map] at this
theorem M6{p l:List Int}{P:List (List Int)}{k:Int->Nat}(hk:∀i,i<p.length->k (p.getD i 0)<p.length)(hP:∀i,i<p.length->[(k (p.getD i 0):Int),(i:Int)]∈P){u v:Nat}(hu:u<p.length)(hv:v<p.length)(hn:p.getD u 0≠p.getD v 0)(huv:[(u:Int),(v:Int)]∈P)(hl:l.length=p.length) :
  (fk (bT l P)).length<(fk p).length:=by
 refine M3 (by rw[pA,hl]) (fun i j hi hj e=>?_) hu hv hn (xG huv rfl rfl (by omega) (by omega));have a:=xG (l:=l) (hP i hi) rfl rfl (by have:=hk i hi;omega) (by omega);have b:=xG (l:=l) (hP j hj) rfl rfl (by have:=hk j hj;omega) (by omega);rw[e] at a;exact a.symm.trans b
end Go.D3
namespace Go.D3
open Go
theorem TM{n:Nat}{β:Type}{φ:Nat->β}{l:List Int}{a b:Nat}(hl:l.length=n)(h:∀i,i<n->∃m:Nat,m<n/\l.getD i 0=m/\φ m=φ i)(ha:a<n)(hb:b<n)(hab:φ a=φ b) :
  ∀i,i<n->∃m:Nat,m<n/\(dO l (l.getD a 0) (l.getD b 0)).getD i 0=m/\φ m=φ i:=fun i hi=>by
 rw[pT (by omega)];obtain⟨m,m1,m2,m3⟩:=h i hi;obtain⟨x,x1,x2,x3⟩:=h a ha;obtain⟨y,y1,y2,y3⟩:=h b hb;split
 ·rename_i e
  refine⟨x,x1,x2,?_⟩;have:m=y:=by omega
  rw[x3,hab,<-y3,<-this,m3]
 ·exact⟨m,m1,m2,m3⟩
theorem xH{n:Nat}{β:Type}{φ:Nat->β}:∀{P:List (List Int)}{l:List Int},l.length=n->(∀i,i<n->∃m:Nat,m<n/\l.getD i 0=m/\φ m=φ i) ->
  (∀p∈P,∃a b:Nat,a<n/\b<n/\p.getD 0 0=a/\p.getD 1 0=b/\φ a=φ b)->∀i,i<n->∃m:Nat,m<n/\(bT l P).getD i 0=m/\φ m=φ i
 | [],l,hl,h,_=>h
 | p::P,l,hl,h,hP=>by
  obtain⟨a,b,ha,hb,h0,h1,hab⟩:=hP p List.mem_cons_self;show ∀i,i<n->∃m:Nat,m<n/\(bT (dO l _ _) P).getD i 0=m/\φ m=φ i;rw[h0,h1,Int.toNat_natCast,Int.toNat_natCast];exact xH (by rw[hZ,hl]) (TM hl h ha hb hab) fun q hq=>hP q (List.mem_cons_of_mem _ hq)
structure fT(L:List Int)(i:Nat)(seen out:List Int):Prop where
 nd:seen.Nodup
 len:out.length=i
 o:∀j,j<i->∃k:Nat,k<seen.length/\out.getD j 0=k/\seen.getD k 0=L.getD j 0
 s:∀k:Nat,k<seen.length->∃j,j<i/\out.getD j 0=k
 f:∀j (m:Nat),j<i->(∀q,q<j->out.getD q 0<m)->out.getD j 0<=m
theorem eG{α:Type}{l:List α}{x d:α}{j:Nat}(h:j<=l.length):(l++[x]).getD j d=if j=l.length then x else l.getD j d:=by
 rw[List.getD_eq_getElem?_getD,List.getD_eq_getElem?_getD];by_cases e:j=l.length
 ·rw[if_pos e,List.getElem?_append_right (by omega),show j-l.length=0 by omega];rfl
 ·rw[if_neg e,List.getElem?_append_left (by omega)]
theorem fT.zero{L:List Int}:fT L 0 [] []:=⟨List.nodup_nil,rfl,fun _ hj=>absurd hj (Nat.not_lt_zero _),fun _ hk=>absurd hk (Nat.not_lt_zero _),fun _ _ hj=>absurd hj (Nat.not_lt_zero _)⟩
theorem fT.le{L:List Int}{i:Nat}{seen out:List Int}(h:fT L i seen out){m:Nat}(hm:∀q,q<i->out.getD q 0<m):seen.length<=m:=by
 cases hl:seen.length with
 | zero=>omega
 | succ k =>
  obtain⟨j,h1,h2⟩:=h.s k (by omega);have:=hm j h1;omega
theorem fT.old{L:List Int}{i:Nat}{seen out:List Int}(h:fT L i seen out){k:Nat}(hk:k<seen.length)(hx:seen.getD k 0=L.getD i 0):fT L (i+1) seen (out++[(k:Int)]):=by
 have hl:=h.len;have hlt:∀{j},j<i->(out++[(k:Int)]).getD j 0=out.getD j 0:=fun hj=>by rw[eG (by omega),if_neg (by omega)]
 have he:(out++[(k:Int)]).getD i 0=k:=by rw[eG (by omega),if_pos hl.symm]
 refine⟨h.nd,by rw[List.length_append,hl];rfl,fun j hj=>?_,fun k' hk'=>?_,fun j m hj hm=>?_⟩
 ·by_cases hji:j<i
  ·rw[hlt hji];exact h.o j hji
  ·rw[show j=i by omega,he];exact⟨k,hk,rfl,hx⟩
 ·obtain⟨j,h1,h2⟩:=h.s k' hk'
  exact⟨j,by omega,by rw[hlt h1,h2]⟩
 ·by_cases hji:j<i
  ·rw[hlt hji]
   exact h.f j m hji fun q hq=>by have:=hm q hq;rwa [hlt (by omega)] at this
  ·obtain rfl:j=i:=by omega
   rw[he];have:=h.le (m:=m) fun q hq=>by have:=hm q hq;rwa [hlt hq] at this
   omega
theorem fT.new{L:List Int}{i:Nat}{seen out:List Int}(h:fT L i seen out)(hx:L.getD i 0 ∉ seen):fT L (i+1) (seen++[L.getD i 0]) (out++[(seen.length:Int)]):=by
 have hl:=h.len;have hlt:∀{j},j<i->(out++[(seen.length:Int)]).getD j 0=out.getD j 0:=fun hj=>by rw[eG (by omega),if_neg (by omega)]
 have he:(out++[(seen.length:Int)]).getD i 0=seen.length:=by rw[eG (by omega),if_pos hl.symm]
 refine⟨?_,by rw[List.length_append,hl];rfl,fun j hj=>?_,fun k' hk'=>?_,fun j m hj hm=>?_⟩
 ·rw[List.nodup_append]
  refine⟨h.nd,by simp,fun a ha b hb=>?_⟩;rw[List.mem_singleton] at hb;rintro rfl;exact hx (hb▸ha)
 ·by_cases hji:j<i
  ·rw[hlt hji]
   obtain⟨k,k1,k2,k3⟩:=h.o j hji;exact⟨k,by rw[List.length_append];omega,k2,by rw[eG (by omega),if_neg (by omega),k3]⟩
  ·rw[show j=i by omega,he]
   exact⟨seen.length,by rw[List.length_append];exact Nat.lt_succ_self _,rfl,by rw[eG (Nat.le_refl _),if_pos rfl]⟩
 ·rw[List.length_append,List.length_singleton] at hk'
  by_cases hk:k'<seen.length
  ·obtain⟨j,h1,h2⟩:=h.s k' hk
   exact⟨j,by omega,by rw[hlt h1,h2]⟩
  ·exact⟨i,by omega,by rw[he];omega⟩
 ·by_cases hji:j<i
  ·rw[hlt hji]
   exact h.f j m hji fun q hq=>by have:=hm q hq;rwa [hlt (by omega)] at this
  ·obtain rfl:j=i:=by omega
   rw[he];have:=h.le (m:=m) fun q hq=>by have:=hm q hq;rwa [hlt hq] at this
   omega
def o9(p:List Int×List Int)(x:Int):List Int×List Int:=if gD p.1 x<0 then(p.1++[x],p.2++[(p.1.length:Int)]) else(p.1,p.2++[gD p.1 x])
def jj(l:List Int):List Int×List Int:=l.foldl o9 ([],[])
theorem DG{l:List Int}{x:Int}:jj (l++[x])=o9 (jj l) x:=by unfold jj;rw[List.foldl_append];rfl
def gx(l:List Int):List Int:=(jj l).2
theorem Nn{l:List Int}{x:Int}(h:¬gD l x<0):∃k:Nat,gD l x=k/\k<l.length/\l.getD k 0=x:=by
 unfold gD at h|-
 by_cases hl:l.findIdx (·== x)<l.length
 ·refine⟨l.findIdx (·== x),by rw[if_pos hl],hl,?_⟩
  have:=List.findIdx_getElem (w:=hl);rw[aS hl];simpa using this
 ·rw[if_neg hl] at h;omega
theorem Nl{l:List Int}{x:Int}(h:gD l x<0):x ∉ l:=fun hm=>by
 unfold gD at h;rw[if_pos (List.findIdx_lt_length_of_exists ⟨x,hm,by simp⟩)] at h;omega
theorem wP{L:List Int}:∀i,i<=L.length->fT L i (jj (L.take i)).1 (jj (L.take i)).2
 | 0,_=>fT.zero
 | i+1,h=>by
  have ih:=wP (L:=L) i (by omega);rw[cH (show i<L.length by omega) 0,DG];unfold o9;split
  ·rename_i hx;exact ih.new (Nl hx)
  ·rename_i hx
   obtain⟨k,h1,h2,h3⟩:=Nn hx;rw[h1];exact ih.old h2 h3
structure oO(L out:List Int):Prop where
 len:out.length=L.length
 ge:∀i,i<L.length->0<=out.getD i 0/\out.getD i 0<L.length
 f:∀i (m:Nat),i<L.length->(∀q,q<i->out.getD q 0<m)->out.getD i 0<=m
 eq:∀i j,i<L.length->j<L.length->(out.getD i 0=out.getD j 0↔L.getD i 0=L.getD j 0)
theorem Qe{l:List Int}(h:l.Nodup){a b:Nat}(ha:a<l.length)(hb:b<l.length)(e:l.getD a 0=l.getD b 0):a=b:=by
 rw[aS ha,aS hb] at e;exact(List.getElem_inj h).1 e
theorem fT.sle{L:List Int}{i:Nat}{seen out:List Int}(h:fT L i seen out)(hi:i<=L.length):seen.length<=i:=by
 have:seen.length<=(L.take i).length:=um h.nd fun x hx=>by
  obtain⟨k,hk,rfl⟩:=List.getElem_of_mem hx;obtain⟨j,h3,h4⟩:=h.s k hk;obtain⟨k',h5,h6,h7⟩:=h.o j h3;rw[<-aS (d:=0) hk,show k=k' by omega,h7,aS (show j<L.length by omega)];exact List.mem_take_iff_getElem.2 ⟨j,by omega,rfl⟩
 rw[List.length_take] at this;omega
theorem fT.done{L seen out:List Int}(h:fT L L.length seen out):oO L out:=by
 refine⟨h.len,fun i hi=>?_,h.f,fun i j hi hj=>?_⟩
 ·obtain⟨k,h1,h2,_⟩:=h.o i hi
  refine⟨by omega,?_⟩;have:=h.sle (Nat.le_refl _);omega
 ·obtain⟨a,a1,a2,a3⟩:=h.o i hi
  obtain⟨b,b1,b2,b3⟩:=h.o j hj;rw[a2,b2,<-a3,<-b3];exact⟨fun e=>by rw[show a=b by omega],fun e=>by rw[Qe h.nd a1 b1 e]⟩
theorem wQ{L:List Int}:oO L (gx L):=by
 have:=wP (L:=L) L.length (Nat.le_refl _);rw[List.take_length] at this;exact this.done
theorem F7{n:Nat}{β:Type}{φ:Nat->β}(i:Nat)(hi:i<n):∃m:Nat,m<n/\(((List.range n).map fun j:Nat=>(j:Int))).getD i 0=m/\φ m=φ i :=
 ⟨i,hi,by rw[List.getD_eq_getElem?_getD,List.getElem?_map,List.getElem?_range hi];rfl,rfl⟩
def cC(n:Nat):List Int:=(List.range n).map fun j:Nat=>(j:Int)
theorem iV{n:Nat}:(cC n).length=n:=by simp[cC]
theorem oO.same{n:Nat}{P:List (List Int)}{out:List Int}(h:oO (bT (cC n) P) out){β:Type}(φ:Nat->β)(hP:∀p∈P,∃a b:Nat,a<n/\b<n/\p.getD 0 0=a/\p.getD 1 0=b/\φ a=φ b)
  {i j:Nat} (hi:i<n) (hj:j<n) (e:out.getD i 0=out.getD j 0):φ i=φ j:=by
 have hl:(bT (cC n) P).length=n:=by rw[pA,iV]
 rw[h.eq i j (by omega) (by omega)] at e;obtain⟨a,_,a1,a2⟩:=xH (φ:=φ) iV F7 hP i hi;obtain⟨b,_,b1,b2⟩:=xH (φ:=φ) iV F7 hP j hj;rw[<-a2,<-b2,show a=b by omega]
end Go.D3
namespace Go.D3
open Go
theorem kW{fr to:List Int}:∀{l m:List Int}{x:Int},bG fr to x (l++m)=(bG fr to x l).bind fun y=>bG fr to y m
 | [],m,x=>rfl
 | e::l,m,x=>by
  rw[List.cons_append,bG,bG];split
  ·exact kW
  ·rfl
theorem MR{fr to:List Int}{x:Int}{e:Nat}(he:e<fr.length)(hx:fr.getD e 0=x):bG fr to x [(e:Int)]=some (to.getD e 0):=by
 rw[bG,if_pos]
 ·rfl
 ·simp only[aP,Bool.and_eq_true,decide_eq_true_eq,beq_iff_eq,Int.toNat_natCast]
  exact⟨by omega,hx⟩
theorem dS{s:aa}{p:U}{y:Int}:s.aU p=some y↔(0<=p.st/\p.st<=s.nd-1)/\p.ed.length<=6/\bG s.fr s.to p.st p.ed=some y:=by
 unfold aa.aU;rw[<-and_assoc];constructor
 ·intro h
  split at h
  ·rename_i hc
   simp only[aP,Bool.and_eq_true,decide_eq_true_eq] at hc;exact⟨hc,h⟩
  ·cases h
 ·rintro⟨h1,h2⟩
  rw[if_pos (by simp only[aP,Bool.and_eq_true,decide_eq_true_eq];exact h1),h2]
theorem xc{s:aa}{x:Int}(h0 : 0<=x)(h1:x<s.nd):s.aU ⟨x,[]⟩=some x:=dS.2 ⟨⟨h0,by show x<=_;omega⟩,Nat.zero_le _,rfl⟩
theorem xb{s:aa}{p:U}{e:Nat}(h:s.aU p=some (s.fr.getD e 0))(he:e<s.fr.length)(hl:p.ed.length<6):s.aU ⟨p.st,p.ed++[(e:Int)]⟩=some (s.to.getD e 0):=by
 rw[dS] at h|-
 refine⟨h.1,by rw[List.length_append];exact hl,?_⟩;show bG s.fr s.to p.st (p.ed++_)=_;rw[kW,h.2.2];exact MR he rfl
theorem MI{s:aa}{x:Int}{l:List Int}{e:Int}{y:Int}(h:s.aU ⟨x,l++[e]⟩=some y):∃k:Nat,e=k/\k<s.fr.length/\s.aU ⟨x,l⟩=some (s.fr.getD k 0):=by
 rw[dS] at h;obtain⟨h1,h2,h3⟩:=h;dsimp only at h1 h2 h3;rw[kW] at h3;cases hf:bG s.fr s.to x l with
 | none=>rw[hf] at h3;cases h3
 | some z =>
  rw[hf,Option.bind_some,bG] at h3;split at h3
  ·rename_i hc
   simp only[aP,Bool.and_eq_true,decide_eq_true_eq,beq_iff_eq] at hc;refine⟨e.toNat,by omega,by omega,dS.2 ⟨h1,?_,?_⟩⟩
   ·show l.length<=6
    rw[List.length_append,List.length_singleton] at h2;omega
   ·show bG s.fr s.to x l=_
    rw[hf,hc.2]
  ·cases h3
structure fW(s:aa)(out:List U)(i:Nat):Prop where
 v:∀p∈out,∃y,s.aU p=some y
 z:∀x:Nat,(x:Int)<s.nd->(⟨x,[]⟩:U)∈out
 c:∀j,j<i->∀e:Nat,e<s.fr.length->(out.getD j U.zero).ed.length<6->s.aU (out.getD j U.zero)=some (s.fr.getD e 0)->(⟨(out.getD j U.zero).st,(out.getD j U.zero).ed++[(e:Int)]⟩:U)∈out
structure jS(s:aa)(out:List U):Prop where
 v:∀p∈out,∃y,s.aU p=some y
 a:∀p y,s.aU p=some y->p∈out
theorem fW.done{s:aa}{out:List U}{i:Nat}(h:fW s out i)(hi:out.length<=i):jS s out:=by
 refine⟨h.v,?_⟩
 have key:∀(n:Nat)(x:Int)(l:List Int),l.length=n->∀y,s.aU ⟨x,l⟩=some y->(⟨x,l⟩:U)∈out:=by
  intro n;induction n with
  | zero =>
   intro x l hl y hy;obtain rfl:=List.length_eq_zero_iff.1 hl;obtain⟨h1,_,_⟩:=dS.1 hy;dsimp only at h1;have:=h.z x.toNat (by omega)
   rwa [show((x.toNat:Nat):Int)=x by omega] at this
  | succ n ih =>
   intro x l hl y hy;have hne:l≠[]:=fun e=>by rw[e] at hl;cases hl
   rw[<-List.dropLast_concat_getLast hne] at hy|-
   obtain⟨k,hk,hk2,hp⟩:=MI hy;have hm:=ih x l.dropLast (by rw[List.length_dropLast];omega) _ hp;obtain⟨j,hj,hg⟩:=List.getElem_of_mem hm;have hgd:out.getD j U.zero=⟨x,l.dropLast⟩:=by rw[aS hj,hg]
   have h6:=(dS.1 hy).2.1;rw[hk]
   have:=h.c j (by omega) k hk2 (by
    rw[hgd];simp only[List.length_append,List.length_dropLast,List.length_singleton] at h6|-
    omega) (by rw[hgd];exact hp)
   rwa [hgd] at this
 exact fun p y hy=>key _ p.st p.ed rfl y hy
def rC(l:List U)(x:Int)(ed:List Int):Int:=if l.findIdx (fun p=>p.st == x&&p.ed == ed)<l.length then((l.findIdx (fun p=>p.st == x&&p.ed == ed):Nat):Int) else -1
theorem yQ{l:List U}{x:Int}{ed:List Int}(h:(⟨x,ed⟩:U)∈l):∃j:Nat,rC l x ed=j/\j<l.length/\l.getD j U.zero=⟨x,ed⟩:=by
 have hl:l.findIdx (fun p=>p.st == x&&p.ed == ed)<l.length:=List.findIdx_lt_length_of_exists ⟨_,h,by simp⟩;refine⟨_,by unfold rC;rw[if_pos hl],hl,?_⟩;have:=List.findIdx_getElem (w:=hl);rw[<-aS (d:=U.zero) hl] at this;generalize l.getD (l.findIdx (fun p=>p.st == x&&p.ed == ed)) U.zero=q at this;simp only[Bool.and_eq_true,beq_iff_eq] at this;cases q;dsimp only at this;rw[this.1,this.2]
structure sA(s:aa)(list:List U)(cl:List Int):Prop where
 len:cl.length=list.length
 ge:∀i,i<list.length->0<=cl.getD i 0/\cl.getD i 0<list.length
 f:∀i (m:Nat),i<list.length->(∀q,q<i->cl.getD q 0<m)->cl.getD i 0<=m
 same:∀i j,i<list.length->j<list.length->cl.getD i 0=cl.getD j 0->(list.getD i U.zero).st=(list.getD j U.zero).st/\s.aU (list.getD i U.zero)=s.aU (list.getD j U.zero)
theorem Mi{s:aa}{list:List U}{P:List (List Int)}{cl:List Int}(h:oO (bT (cC list.length) P) cl)
  (hP:∀p∈P,∃a b:Nat,a<list.length/\b<list.length/\p.getD 0 0=a/\p.getD 1 0=b/\(list.getD a U.zero).st=(list.getD b U.zero).st/\s.aU (list.getD a U.zero)=s.aU (list.getD b U.zero)):sA s list cl:=by
 have hl:(bT (cC list.length) P).length=list.length:=by rw[pA,iV]
 refine⟨by rw[h.len,hl],fun i hi=>by have:=h.ge i (by omega);rwa [hl] at this,fun i m hi=>h.f i m (by omega),fun i j hi hj e=>?_⟩
 have:=h.same (fun i=>((list.getD i U.zero).st,s.aU (list.getD i U.zero))) (fun p hp=>by
  obtain⟨a,b,h1,h2,h3,h4,h5,h6⟩:=hP p hp
  exact⟨a,b,h1,h2,h3,h4,by rw[h5,h6]⟩) hi hj e
 exact⟨congrArg Prod.fst this,congrArg Prod.snd this⟩
structure ie(s:aa)(list:List U)(cl:List Int)(i:Nat)(least:List U):Prop where
 lt:∀j,j<i->cl.getD j 0<least.length
 ex:∀k,k<least.length->∃j,j<i/\j<list.length/\cl.getD j 0=k/\least.getD k U.zero=list.getD j U.zero
 p8:∀k,k<least.length->(least.getD k U.zero).ed.length<6
theorem ie.zero{s:aa}{list:List U}{cl:List Int}:ie s list cl 0 []:=⟨fun _ hj=>absurd hj (Nat.not_lt_zero _),fun _ hk=>absurd hk (Nat.not_lt_zero _),fun _ hk=>absurd hk (Nat.not_lt_zero _)⟩
theorem ie.old{s:aa}{list:List U}{cl:List Int}{i:Nat}{least:List U}(hc:sA s list cl)(h:ie s list cl i least)(hi:i<list.length)(hn:cl.getD i 0≠least.length):ie s list cl (i+1) least:=by
 refine⟨fun j hj=>?_,fun k hk=>?_,h.p8⟩
 ·by_cases hji:j<i
  ·exact h.lt j hji
  ·rw[show j=i by omega]
   have:=hc.f i least.length hi h.lt;omega
 ·obtain⟨j,h1,h2⟩:=h.ex k hk
  exact⟨j,by omega,h2⟩
theorem ie.new{s:aa}{list:List U}{cl:List Int}{i:Nat}{least:List U}(h:ie s list cl i least)(hi:i<list.length)(he:cl.getD i 0=least.length)(h6:(list.getD i U.zero).ed.length<6):ie s list cl (i+1) (least++[list.getD i U.zero]):=by
 have hlt:∀{k},k<least.length->(least++[list.getD i U.zero]).getD k U.zero=least.getD k U.zero:=fun hk=>by rw[eG (by omega),if_neg (by omega)]
 have hel:(least++[list.getD i U.zero]).getD least.length U.zero=list.getD i U.zero:=by rw[eG (Nat.le_refl _),if_pos rfl]
 refine⟨fun j hj=>?_,fun k hk=>?_,fun k hk=>?_⟩
 ·rw[List.length_append,List.length_singleton]
  by_cases hji:j<i
  ·have:=h.lt j hji;omega
  ·rw[show j=i by omega];omega
 ·rw[List.length_append,List.length_singleton] at hk
  by_cases hkl:k<least.length
  ·obtain⟨j,h1,h2,h3,h4⟩:=h.ex k hkl
   exact⟨j,by omega,h2,h3,by rw[hlt hkl,h4]⟩
  ·obtain rfl:k=least.length:=by omega
   exact⟨i,by omega,hi,he,hel⟩
 ·rw[List.length_append,List.length_singleton] at hk
  by_cases hkl:k<least.length
  ·rw[hlt hkl];exact h.p8 k hkl
  ·obtain rfl:k=least.length:=by omega
   rw[hel];exact h6
theorem ie.at'{s:aa}{list:List U}{cl:List Int}{least:List U}(hA:jS s list)(hc:sA s list cl)(h:ie s list cl list.length least){x:Int}{ed:List Int}{y:Int}(hy:s.aU ⟨x,ed⟩=some y) :
  ∃j k:Nat,rC list x ed=j/\j<cl.length/\cl.getD j 0=k/\k<least.length/\(least.getD k U.zero).st=x/\s.aU (least.getD k U.zero)=some y/\(least.getD k U.zero).ed.length<6:=by
 obtain⟨j,h1,h2,h3⟩:=yQ (hA.a _ _ hy);have h4:=(hc.ge j h2).1;have h5:=h.lt j h2;obtain⟨k,hk⟩:∃k:Nat,cl.getD j 0=k:=⟨(cl.getD j 0).toNat,by omega⟩;obtain⟨j',_,h6,h7,h8⟩:=h.ex k (by omega);obtain⟨h9,h10⟩:=hc.same j' j h6 h2 (by rw[h7,hk]);refine⟨j,k,h1,by rw[hc.len];exact h2,hk,by omega,?_,?_,h.p8 k (by omega)⟩
 ·rw[h8,h9,h3]
 ·rw[h8,h10,h3,hy]
end Go.D3
namespace Go.D3
open Go
def mD(i:Nat):List U:=(List.range i).map fun x:Nat=>⟨x,[]⟩
theorem FQ{i:Nat}:(mD i).length=i:=by simp[mD]
theorem Qc{i:Nat}:mD (i+1)=mD i++[⟨i,[]⟩]:=by unfold mD;rw[List.range_succ,List.map_append];rfl
theorem Qd{s:aa}(hs:cQ s):fW s (mD s.nd.toNat) 0:=by
 have h0:=hs.n0;refine⟨fun p hp=>?_,fun x hx=>?_,fun j hj=>by omega⟩
 ·obtain⟨x,hx,rfl⟩:=List.mem_map.1 hp
  rw[List.mem_range] at hx;exact⟨x,xc (by omega) (by omega)⟩
 ·exact List.mem_map.2 ⟨x,List.mem_range.2 (by omega),rfl⟩
theorem fW.p8{s:aa}{o:List U}{i:Nat}(h:fW s o i)(h6:¬(o.getD i U.zero).ed.length<6):fW s o (i+1):=by
 refine⟨h.v,h.z,fun j hj e he hl hE=>?_⟩;by_cases hji:j<i
 ·exact h.c j hji e he hl hE
 ·rw[show j=i by omega] at hl;exact absurd hl h6
theorem fW.add{s:aa}{o:List U}{i:Nat}(h:fW s o i)(hi:i<=o.length){q:U}{y:Int}(hq:s.aU q=some y):fW s (o++[q]) i:=by
 refine⟨fun p hp=>?_,fun x hx=>List.mem_append_left _ (h.z x hx),fun j hj e he=>?_⟩
 ·rcases List.mem_append.1 hp with hp | hp
  ·exact h.v p hp
  ·rw[List.mem_singleton] at hp;subst hp;exact⟨y,hq⟩
 ·rw[eG (by omega),if_neg (by omega)]
  exact fun hl hE=>List.mem_append_left _ (h.c j hj e he hl hE)
theorem fW.next{s:aa}{o:List U}{i:Nat}(h:fW s o i)(hc:∀e:Nat,e<s.fr.length->s.aU (o.getD i U.zero)=some (s.fr.getD e 0)->(⟨(o.getD i U.zero).st,(o.getD i U.zero).ed++[(e:Int)]⟩:U)∈o):fW s o (i+1):=by
 refine⟨h.v,h.z,fun j hj e he hl hE=>?_⟩;by_cases hji:j<i
 ·exact h.c j hji e he hl hE
 ·obtain rfl:j=i:=by omega
  exact hc e he hE
theorem fW.at'{s:aa}{o:List U}{i j:Nat}(h:fW s o i)(hj:j<o.length):∃y,s.aU (o.getD j U.zero)=some y:=by
 rw[aS hj];exact h.v _ (List.getElem_mem _)
theorem jS.at'{s:aa}{o:List U}{j:Nat}(h:jS s o)(hj:j<o.length):∃y,s.aU (o.getD j U.zero)=some y:=by
 rw[aS hj];exact h.v _ (List.getElem_mem _)
theorem jS.perm{s:aa}{o l:List U}(h:jS s l)(hp:o.Perm l):jS s o:=⟨fun p q=>h.v p (hp.mem_iff.1 q),fun p y hy=>hp.mem_iff.2 (h.a p y hy)⟩
def vq(o:List U)(k:Nat):List U:=(o.set k (o.getD (k-1) U.zero)).set (k-1) (o.getD k U.zero)
theorem WG{o:List U}{k:Nat}(hk:k<o.length):(vq o k).Perm o:=by
 unfold vq;rw[aS hk,aS (show k-1<o.length by omega)];exact List.set_set_perm hk (by omega)
def vR(n:Nat)(P:List (List Int)):Prop:=∀p∈P,∃a b:Nat,p=[(a:Int),(b:Int)]/\a<n/\b<n
theorem vR.get{n:Nat}{P:List (List Int)}(h:vR n P){k:Nat}(hk:k<P.length):∃a b:Nat,P.getD k []=[(a:Int),(b:Int)]/\a<n/\b<n:=by
 rw[aS hk];exact h _ (List.getElem_mem _)
def jc(s:aa)(list:List U)(P:List (List Int)):Prop:=∀p∈P,∃a b:Nat,p=[(a:Int),(b:Int)]/\a<list.length/\b<list.length/\(list.getD a U.zero).st=(list.getD b U.zero).st/\s.aU (list.getD a U.zero)=s.aU (list.getD b U.zero)
theorem jc.pr{s:aa}{list:List U}{P:List (List Int)}(h:jc s list P):vR list.length P:=fun p hp=>by
 obtain⟨a,b,h1,h2,h3,_⟩:=h p hp;exact⟨a,b,h1,h2,h3⟩
theorem jc.add{s:aa}{list:List U}{P:List (List Int)}(h:jc s list P){a b:Nat}(ha:a<list.length)(hb:b<list.length)(h1:(list.getD a U.zero).st=(list.getD b U.zero).st)(h2:s.aU (list.getD a U.zero)=s.aU (list.getD b U.zero)) :
  jc s list (P++[[(a:Int),(b:Int)]]):=fun p hp=>by
 rcases List.mem_append.1 hp with hp | hp
 ·exact h p hp
 ·rw[List.mem_singleton] at hp;subst hp;exact⟨a,b,rfl,ha,hb,h1,h2⟩
theorem jc.cls{s:aa}{list:List U}{P:List (List Int)}{cl:List Int}(h:jc s list P)(hj:oO (bT (cC list.length) P) cl):sA s list cl:=Mi hj fun p hp=>by
 obtain⟨a,b,rfl,h1,h2,h3,h4⟩:=h p hp;exact⟨a,b,h1,h2,rfl,rfl,h3,h4⟩
theorem s9{s:aa}{p:U}{y:Int}(h:s.aU p=some y){i:Nat}(hi:i<=p.ed.length):bG s.fr s.to p.st (p.ed.take i)=some (if i=0 then p.st else s.to.getD (p.ed.getD (i-1) 0).toNat 0):=by
 have h3:=(dS.1 h).2.2;rw[<-List.take_append_drop i p.ed,kW] at h3;cases hf:bG s.fr s.to p.st (p.ed.take i) with
 | none=>rw[hf] at h3;cases h3
 | some m =>
  have:=(tq hf).1;rw[this];by_cases hi0:i=0
  ·subst hi0;rfl
  ·have hne:¬p.ed.take i=[]:=fun e=>by
    have:=congrArg List.length e;rw[List.length_take,List.length_nil] at this;omega
   rw[if_neg hne,if_neg hi0];congr 3;rw[List.length_take,Nat.min_eq_left hi,List.getD_eq_getElem?_getD,List.getElem?_take,if_pos (by omega),List.getD_eq_getElem?_getD]
theorem D5{s:aa}{w p q:U}{y z m:Int}{i:Nat}(hw:s.aU w=some y)(hp:s.aU p=some z)(hq:s.aU q=some z)(aO:p.st=q.st)(hi:i+p.ed.length<=w.ed.length)
  (hm:bG s.fr s.to w.st (w.ed.take i)=some m) (hpm:m=p.st) (hs:(w.ed.take (i+p.ed.length)).drop i=p.ed) (hl:w.ed.length-p.ed.length+q.ed.length<=6) :
  s.aU ⟨w.st,w.ed.take i++q.ed++w.ed.drop (i+p.ed.length)⟩=some y:=by
 obtain⟨h1,h2,h3⟩:=dS.1 hw;refine dS.2 ⟨h1,?_,?_⟩
 ·show(w.ed.take i++q.ed++w.ed.drop _).length<=6
  simp only[List.length_append,List.length_take,List.length_drop];omega
 ·show bG s.fr s.to w.st (w.ed.take i++q.ed++w.ed.drop _)=_
  have e:w.ed=w.ed.take i++p.ed++w.ed.drop (i+p.ed.length):=by
   conv=>lhs;rw[<-List.take_append_drop (i+p.ed.length) w.ed,<-List.take_append_drop i (w.ed.take (i+p.ed.length)),hs,List.take_take,Nat.min_eq_left (by omega)]
  rw[e,List.append_assoc,kW,hm,Option.bind_some,kW,hpm,(dS.1 hp).2.2,Option.bind_some] at h3;rw[List.append_assoc,kW,hm,Option.bind_some,kW,hpm,aO,(dS.1 hq).2.2,Option.bind_some,h3]
end Go.D3
namespace Go.D3
open Go
set_option maxHeartbeats 4000000
set_option maxRecDepth 100000
def hY(p:List Int)(n:Nat):List (List Int):=(List.range n).map fun i:Nat=>[gD p (p.getD i 0),(i:Int)]
theorem rA{p:List Int}{n:Nat}:(hY p n).length=n:=by simp[hY]
theorem S5{p:List Int}{n:Nat}:hY p (n+1)=hY p n++[[gD p (p.getD n 0),(n:Int)]]:=by
 unfold hY;rw[List.range_succ,List.map_append];rfl
theorem Lz{l:List (List Int)}{a b:Int}:(ae ints [] l).dQ [.slice (.int .i64 0) [.int .i64 a,.int .i64 b]]=aI (l++[[a,b]]):=by
 simp only[ae,D.dQ,aI,List.map_append,List.map_cons,List.map_nil]
attribute [go_sem high] Lz
def By:List Nat:=[0,2,3,4]
def Jw:Sl:=ak Go.Proofs.Tryz.types Go.Proofs.Tryz.f151 By []
theorem RE:aF Go.Proofs.Tryz.prog Go.Proofs.Tryz.f151 By Jw 1=true:=by decide +kernel
theorem UW(p:List Int)(hp:p.length<=1048576):aC Go.Proofs.Tryz.prog 151 [.v (ints p)] (aI (hY p p.length)):=by
 refine aQ Go.Proofs.Tryz.func151 RE ?_;unfold Jw ak By;simp only[go_sem];refine aE [] (fun(i:Nat)=>[(2,.o (aI (hY p i))),(3,.int .i64 i)]) (fun i=>i<=p.length) (fun i=>p.length-i) 0 (by simp only[go_sem];rfl) (Nat.zero_le _) rfl ?_;intro i hi;simp only[go_sem];refine⟨fun h=>⟨h,av (HT p (p.getD i 0) hp) rfl (.inl rfl) ?_⟩,fun h=>by rw[show i=p.length by omega]⟩;simp only[go_sem];exact⟨by rw[rA];omega,i+1,h,by omega,by rw[aM h (by simp only[maxLen];omega),S5]⟩
def Bk:List Nat:=[0,2,3,4,5,6]
def Jj:Sl:=ak Go.Proofs.Tryz.types Go.Proofs.Tryz.f168 Bk []
theorem Rr:aF Go.Proofs.Tryz.prog Go.Proofs.Tryz.f168 Bk Jj 1=true:=by decide +kernel
theorem UQ(l:List Int)(hl:l.length<=1048576):aC Go.Proofs.Tryz.prog 168 [.v (ints l)] (ints (gx l)):=by
 refine aQ Go.Proofs.Tryz.func168 Rr ?_;unfold Jj ak Bk;simp only[go_sem];refine aE [5] (fun(i:Nat)=>[(2,.o (ints (jj (l.take i)).2)),(3,.o (ints (jj (l.take i)).1)),(4,.int .i64 i)]) (fun i=>i<=l.length) (fun i=>l.length-i) 0 (by simp only[go_sem];rfl) (Nat.zero_le _) rfl ?_;intro i hi;have hI:=wP (L:=l) i hi;have h1:=hI.len;have h2:=hI.sle hi;simp only[go_sem];refine⟨fun h=>⟨h,av (HT _ _ (by omega)) rfl (.inl rfl) ?_⟩,fun h=>?_⟩
 ·have hs:jj (l.take (i+1))=o9 (jj (l.take i)) (l.getD i 0):=by rw[cH h 0,DG]
  have hw:=aM h (show l.length<=maxLen by simp only[maxLen];omega);generalize jj (l.take i)=st at hs h1 h2;simp only[go_sem];refine⟨fun hx=>?_,fun hx=>?_⟩
  ·refine⟨h,by omega,by omega,i+1,h,by omega,?_⟩
   rw[hs,o9,if_pos hx,hw]
  ·refine⟨by omega,i+1,h,by omega,?_⟩
   rw[hs,o9,if_neg hx,hw]
 ·rw[List.take_of_length_le (by omega)];rfl
theorem F5{n:Nat}:cC (n+1)=cC n++[(n:Int)]:=by unfold cC;rw[List.range_succ,List.map_append];rfl
theorem Hi{l:List Int}{a b:Int}{i:Nat}(h:i<l.length):((dO l a b).take i++l.drop i).getD i 0=l.getD i 0:=by
 rw[List.getD_eq_getElem?_getD,List.getElem?_append_right (by rw[List.length_take,hZ];omega),List.length_take,hZ,Nat.min_eq_left (by omega),Nat.sub_self,List.getElem?_drop,Nat.add_zero,List.getD_eq_getElem?_getD]
theorem TN{l:List Int}{a b:Int}{i:Nat}(h:i<l.length):(dO l a b).take (i+1)++l.drop (i+1)=((dO l a b).take i++l.drop i).set i (if l.getD i 0=b then a else l.getD i 0):=by
 have hl:i<(dO l a b).length:=by rw[hZ];exact h
 rw[List.drop_eq_getElem_cons h,List.set_append_right _ _ (by rw[List.length_take];omega),List.length_take,Nat.min_eq_left (by omega),Nat.sub_self,List.set_cons_zero,cH hl 0,pT h,List.append_assoc];rfl
def Bs:List Nat:=[0,1,4,5,6,7,8,9,10]
def Jq:Sl:=ak Go.Proofs.Tryz.types Go.Proofs.Tryz.f147 Bs []
theorem Ry:aF Go.Proofs.Tryz.prog Go.Proofs.Tryz.f147 Bs Jq 2=true:=by decide +kernel
theorem zr(n:Nat)(P:List (List Int))(hn:n<=1048576)(hl:P.length<=1048576)(hP:∀k,k<P.length->∃a b:Nat,P.getD k []=[(a:Int),(b:Int)]/\a<n/\b<n):aC Go.Proofs.Tryz.prog 147 [.v (.int .i64 n),.v (aI P)] (ints (gx (bT (cC n) P))):=by
 refine aQ Go.Proofs.Tryz.func147 Ry ?_;unfold Jq ak Bs;simp only[go_sem];refine aE [] (fun(i:Nat)=>[(3,.o (ints (cC i))),(4,.int .i64 i)]) (fun i=>i<=n) (fun i=>n-i) 0 (by simp only[go_sem];rfl) (Nat.zero_le _) rfl ?_;intro i hi;simp only[go_sem];refine⟨fun h=>⟨by rw[iV];omega,i+1,by omega,by omega,by rw[aM (show i<n by omega) (by simp only[maxLen];omega),F5]⟩,fun h=>?_⟩;obtain rfl:i=n:=by omega
 refine aE [6,7,8] (fun(k:Nat)=>[(3,.o (ints (bT (cC i) (P.take k)))),(5,.int .i64 k)]) (fun k=>k<=P.length) (fun k=>P.length-k) 0 (by simp only[go_sem];rfl) (Nat.zero_le _) rfl ?_;intro k hk;have hL:(bT (cC i) (P.take k)).length=i:=by rw[pA,iV]
 simp only[go_sem];refine⟨fun h2=>?_,fun h2=>?_⟩
 ·obtain⟨u,v,hp,hu,hv⟩:=hP k h2
  have hs:bT (cC i) (P.take (k+1))=dO (bT (cC i) (P.take k)) ((bT (cC i) (P.take k)).getD u 0) ((bT (cC i) (P.take k)).getD v 0):=by
   rw[cH h2 [],NL,hp];rfl
  have hw:=aM h2 (show P.length<=maxLen by simp only[maxLen];omega);rw[hp];simp only[List.getD_cons_zero,List.getD_cons_succ,Int.toNat_natCast,List.length_cons,List.length_nil];generalize bT (cC i) (P.take k)=L at hs hL;generalize L.getD u 0=x at hs;generalize L.getD v 0=y at hs;refine⟨h2,by omega,by omega,h2,by omega,by omega,?_⟩;refine aE [] (fun(j:Nat)=>[(3,.o (ints ((dO L x y).take j++L.drop j))),(8,.int .i64 j)]) (fun j=>j<=L.length) (fun j=>L.length-j) 0 (by simp only[go_sem];rfl) (Nat.zero_le _) rfl ?_;intro j hj;have hl2:((dO L x y).take j++L.drop j).length=L.length:=by rw[List.length_append,List.length_take,List.length_drop,hZ];omega
  simp only[go_sem];simp only[hl2];refine⟨fun h3=>?_,fun h3=>?_⟩
  ·simp only[Bool.and_eq_true,decide_eq_true_eq,bne_iff_ne] at h3
   have aO:=TN (a:=x) (b:=y) h3.1;have hw2:=aM h3.1 (show L.length<=maxLen by simp only[maxLen];omega);rw[Hi h3.1,hw2];refine⟨h3.1,fun h4=>⟨h3.1,h3.1,j+1,h3.1,by omega,?_⟩,fun h4=>⟨j+1,h3.1,by omega,?_⟩⟩
   ·rw[aO,if_pos h4]
   ·have h4:L.getD j 0≠y:=by simpa using h4
    rw[aO,if_neg h4]
    have e:((dO L x y).take j++L.drop j).set j (L.getD j 0)=(dO L x y).take j++L.drop j:=by
     rw[<-Hi (a:=x) (b:=y) h3.1,aS (by omega),List.set_getElem_self]
    rw[e]
  ·have:(dO L x y).take j++L.drop j=dO L x y:=by
    by_cases hxy:x=y
    ·have:dO L x y=L:=by
      subst hxy;unfold dO
      conv=>rhs;rw[<-List.map_id L]
      refine List.map_congr_left fun z _=>?_
      show(if z=x then x else z)=z;split<;>simp_all
     rw[this,List.take_append_drop]
    ·have:¬j<L.length:=fun h4=>by simp[h4,hxy] at h3
     rw[List.take_of_length_le (by rw[hZ];omega),List.drop_of_length_le (by omega),List.append_nil]
   exact⟨k+1,h2,by omega,by rw[hs,this,hw]⟩
 ·rw[List.take_of_length_le (by omega)]
  refine av (UQ _ (by rw[pA,iV];exact hn)) rfl (.inl (bZ _)) ?_;simp only[go_sem]
def BR:List Nat:=[0,1,4]
def JP:Sl:=ak Go.Proofs.Tryz.types Go.Proofs.Tryz.f114 BR []
theorem R3:aF Go.Proofs.Tryz.prog Go.Proofs.Tryz.f114 BR JP 2=true:=by decide +kernel
theorem U9(n:Nat)(P:List (List Int))(hn:n<=1048576)(hl:P.length<=1048576)(hP:∀k,k<P.length->∃a b:Nat,P.getD k []=[(a:Int),(b:Int)]/\a<n/\b<n):aC Go.Proofs.Tryz.prog 114 [.v (.int .i64 n),.v (aI P)] (ints (gx (bT (cC n) P))):=by
 refine aQ Go.Proofs.Tryz.func114 R3 ?_;unfold JP ak BR;simp only[go_sem];refine av (zr n P hn hl hP) rfl (.inl (bZ _)) ?_;simp only[go_sem]
end Go.D3
namespace Go.D3
open Go
set_option maxRecDepth 100000
def BX:List Nat:=[0,1,2,6,7]
def JV:Sl:=ak Go.Proofs.Tryz.types Go.Proofs.Tryz.f116 BX []
theorem R9:aF Go.Proofs.Tryz.prog Go.Proofs.Tryz.f116 BX JV 3=true:=by decide +kernel
theorem rQ(l:List U)(x:Int)(ed:List Int)(hl:l.length<=1048576)(he:∀i,i<l.length->(l.getD i U.zero).ed.length<=1048576) :
  aC Go.Proofs.Tryz.prog 116 [.v (ae U.d U.zero l),.v (.int .i64 x),.v (ints ed)] (.int .i64 (rC l x ed)):=by
 refine aQ Go.Proofs.Tryz.func116 R9 ?_;unfold JV ak BX;simp only[go_sem];refine aE [] (fun i:Nat=>[(4,.int .i64 i)]) (fun i=>i<=l.findIdx fun p=>p.st == x&&p.ed == ed) (fun i=>l.length-i) 0 (by simp only[go_sem];rfl) (Nat.zero_le _) rfl ?_;intro i hi;have hfl:=List.findIdx_le_length (p:=fun p:U=>p.st == x&&p.ed == ed) (xs:=l);have hp:rC l x ed=if l.findIdx (fun p=>p.st == x&&p.ed == ed)<l.length then((l.findIdx (fun p=>p.st == x&&p.ed == ed):Nat):Int) else -1:=rfl
 simp only[go_sem];refine⟨fun h1=>⟨h1,fun h2=>⟨h2,h1⟩,bt (fun _=>u5 _ _ (he i h1)) rfl (fun h=>h) (.inl rfl) ?_⟩,fun h1=>?_⟩
 ·simp only[go_sem]
  refine⟨fun h2=>?_,fun h2=>⟨i+1,?_,by omega,by rw[aM h1 (by simp only[maxLen];omega)]⟩⟩
  ·have:l.findIdx (fun p=>p.st == x&&p.ed == ed)<=i:=by
    apply Nat.le_of_not_lt;intro hh;have:=List.not_of_lt_findIdx hh;rw[<-aS (d:=U.zero) h1,h2] at this;cases this
   have e:l.findIdx (fun p=>p.st == x&&p.ed == ed)=i:=by omega
   rw[hp,e,if_pos h1]
  ·by_cases hlt:i<l.findIdx fun p=>p.st == x&&p.ed == ed
   ·omega
   ·have e:l.findIdx (fun p=>p.st == x&&p.ed == ed)=i:=by omega
    have:=List.findIdx_getElem (w:=show l.findIdx (fun p=>p.st == x&&p.ed == ed)<l.length by omega);simp only[e] at this;rw[<-aS (d:=U.zero) h1,h2] at this;cases this
 ·rw[hp,if_neg (by omega)]
def qX(p:U)(y:Int):List Int:=[p.st,y,p.ed.length]++p.ed
def BU:List Nat:=[0,1,2,6,3,4,5,7,8]
def JS:Sl:=ak Go.Proofs.Tryz.types Go.Proofs.Tryz.f146 BU []
theorem R6:aF Go.Proofs.Tryz.prog Go.Proofs.Tryz.f146 BU JS 3=true:=by decide +kernel
theorem Vb(s:aa)(p q:U)(y z:Int)(hto:s.to.length=s.fr.length)(hp:s.aU p=some y)(hq:s.aU q=some z):aC Go.Proofs.Tryz.prog 146 [.v (aa.d s),.v (U.d p),.v (U.d q)] (.bool (lexB (qX p y) (qX q z))):=by
 refine aQ Go.Proofs.Tryz.func146 R6 ?_;unfold JS ak BU;simp only[go_sem];have h6:=(dS.1 hp).2.1;have h7:=(dS.1 hq).2.1;refine av (oB s p y hto hp) rfl (.inl rfl) ?_;simp only[go_sem];refine⟨pZ _,by rw[List.length_map];omega,av (oB s q z hto hq) rfl (.inl rfl) ?_⟩;simp only[go_sem];refine⟨pZ _,by rw[List.length_map];omega,av (UU (qX p y) (qX q z) (by simp only[qX,List.length_append,List.length_cons,List.length_nil];omega)) rfl (.inl rfl) ?_⟩;simp only[go_sem]
def jM:Option U->D
 | some p=>.agg [.int .i64 p.st,.vw (ints p.ed)]
 | none=>.agg [.int .i64 0,ints []]
structure ea where
 c:aA
 ls:List U
 ed:List Int
def ea.cells(x:ea):List D:=[.int .i64 x.c.ob,ints x.c.fr,ints x.c.to,ints x.c.bC,aI x.c.co,ae jM none (x.ls.map some),ints x.ed]
def ea.d(x:ea):D:=.agg x.cells
attribute [go_sem] ea.d.eq_1 ea.cells.eq_1
def ea.arr(x:ea)(p:U)(i:Nat):Int:=(p.ed.take i).foldl (fun h e=>x.c.dx h (x.ed.getD e.toNat 0)) (x.c.kg p.st)
def BP:List Nat:=[0,1,4,2,3,5,6]
def JN:Sl:=ak Go.Proofs.Tryz.types Go.Proofs.Tryz.f119 BP []
theorem R0:aF Go.Proofs.Tryz.prog Go.Proofs.Tryz.f119 BP JN 2=true:=by decide +kernel
theorem U7(x:ea)(p:U)(hs : 0<=p.st/\p.st<x.c.bC.length)(he:∀i,i<p.ed.length->0<=p.ed.getD i 0/\p.ed.getD i 0<x.ed.length)
  (h:∀i,i<p.ed.length->(0<=x.arr p i/\x.arr p i<x.c.co.length)/\0<=x.ed.getD (p.ed.getD i 0).toNat 0/\x.ed.getD (p.ed.getD i 0).toNat 0<(x.c.co.getD (x.arr p i).toNat []).length) (hl:p.ed.length<=1048576) :
  aC Go.Proofs.Tryz.prog 119 [.v (ea.d x),.v (U.d p)] (.int .i64 (x.arr p p.ed.length)):=by
 refine aQ Go.Proofs.Tryz.func119 R0 ?_;unfold JN ak BP;simp only[go_sem];refine⟨hs,?_⟩;refine aE [] (fun(i:Nat)=>[(5,.int .i64 (x.arr p i)),(6,.int .i64 i)]) (fun i=>i<=p.ed.length) (fun i=>p.ed.length-i) 0 (by simp only[go_sem];rfl) (Nat.zero_le _) rfl ?_;intro i hi;simp only[go_sem];refine⟨fun h1=>?_,fun h1=>by rw[show i=p.ed.length by omega]⟩;obtain⟨h2,h3⟩:=h i h1;refine⟨h2,h1,he i h1,h3,i+1,h1,by omega,?_⟩
 have e:x.arr p (i+1)=(x.c.co.getD (x.arr p i).toNat []).getD (x.ed.getD (p.ed.getD i 0).toNat 0).toNat 0:=by
  unfold ea.arr;rw[cH h1 0,List.foldl_append];rfl
 rw[e,aM h1 (by simp only[maxLen];omega)]
end Go.D3
