/- CONTRACTS: changes, the program's side. -/
import Derived.Test.YtpnchponfnbmiaaGreatDoorGAD
import Derived.Test.YtpnchponfnbmiaaGreatDoorGAC
namespace Go.D3
open Go
def da(l:List Int)(a b:Int):List Int:=l.map fun x=>if x=b then a else x
def ch(l:List Int)(P:List (List Int)):List Int:=P.foldl (fun l p=>da l (l.getD (p.getD 0 0).toNat 0) (l.getD (p.getD 1 0).toNat 0)) l
theorem MQ{l:List Int}{P:List (List Int)}{p:List Int}:ch l (P++[p])=da (ch l P) ((ch l P).getD (p.getD 0 0).toNat 0) ((ch l P).getD (p.getD 1 0).toNat 0):=by
 unfold ch;rw[List.foldl_append];rfl
theorem gO{l:List Int}{a b:Int}:(da l a b).length=l.length:=List.length_map _
theorem ri{l:List Int}{P:List (List Int)}:(ch l P).length=l.length:=by
 induction P generalizing l with
 | nil=>rfl
 | cons p P ih=>show(ch _ P).length=_;rw[ih,gO]
theorem pY{l:List Int}{a b:Int}{i:Nat}(h:i<l.length):(da l a b).getD i 0=if l.getD i 0=b then a else l.getD i 0:=by
 rw[aO (by rw[gO];exact h),aO h];unfold da;rw[List.getElem_map]
theorem Sx{l:List Int}{a b:Int}{i j:Nat}(hi:i<l.length)(hj:j<l.length)(h:l.getD i 0=l.getD j 0):(da l a b).getD i 0=(da l a b).getD j 0:=by
 rw[pY hi,pY hj,h]
theorem MO{P:List (List Int)}:∀{l:List Int}{i j:Nat},i<l.length->j<l.length->l.getD i 0=l.getD j 0->(ch l P).getD i 0=(ch l P).getD j 0:=by
 induction P with
 | nil=>exact fun _ _ h=>h
 | cons p P ih =>
  intro l i j hi hj h;show(ch (da _ _ _) P).getD i 0=(ch (da _ _ _) P).getD j 0;exact ih (by rw[gO];exact hi) (by rw[gO];exact hj) (Sx hi hj h)
theorem MP{P:List (List Int)}:∀{l:List Int}{p:List Int}{i j:Nat},p∈P->p.getD 0 0=i->p.getD 1 0=j->i<l.length->j<l.length->(ch l P).getD i 0=(ch l P).getD j 0:=by
 induction P with
 | nil=>intro l p i j h;cases h
 | cons q P ih =>
  intro l p i j hp h0 h1 hi hj;show(ch (da _ _ _) P).getD i 0=(ch (da _ _ _) P).getD j 0;rcases List.mem_cons.1 hp with rfl | hp
  ·refine MO (by rw[gO];exact hi) (by rw[gO];exact hj) ?_
   rw[pY hi,pY hj,h0,h1,Int.toNat_natCast,Int.toNat_natCast,if_pos rfl];split<;>rfl
  ·exact ih hp h0 h1 (by rw[gO];exact hi) (by rw[gO];exact hj)
theorem EZ:∀{A B:List Int},A.Nodup->(∀x∈A,x∈B)->A.length<=B.length
 | [],_,_,_=>Nat.zero_le _
 | x::A,B,h,hs=>by
  rw[List.nodup_cons] at h;have hx:=hs x List.mem_cons_self;have:=EZ (A:=A) (B:=B.erase x) h.2 fun y hy=>(List.mem_erase_of_ne (show y≠x from fun e=>h.1 (by rw[<-e];exact hy))).2 (hs y (List.mem_cons_of_mem _ hy))
  rw[List.length_erase_of_mem hx] at this;have:=List.length_pos_of_mem hx;rw[List.length_cons];omega
end Go.D3
namespace Go.D3
open Go
theorem Sy{n:Nat}{β:Type}{φ:Nat->β}{l:List Int}{a b:Nat}(hl:l.length=n)(h:∀i,i<n->∃m:Nat,m<n/\l.getD i 0=m/\φ m=φ i)(ha:a<n)(hb:b<n)(hab:φ a=φ b) :
  ∀i,i<n->∃m:Nat,m<n/\(da l (l.getD a 0) (l.getD b 0)).getD i 0=m/\φ m=φ i:=fun i hi=>by
 rw[pY (by omega)];obtain⟨m,m1,m2,m3⟩:=h i hi;obtain⟨x,x1,x2,x3⟩:=h a ha;obtain⟨y,y1,y2,y3⟩:=h b hb;split
 ·rename_i e
  refine⟨x,x1,x2,?_⟩;have:m=y:=by omega
  rw[x3,hab,<-y3,<-this,m3]
 ·exact⟨m,m1,m2,m3⟩
theorem xc{n:Nat}{β:Type}{φ:Nat->β}:∀{P:List (List Int)}{l:List Int},l.length=n->(∀i,i<n->∃m:Nat,m<n/\l.getD i 0=m/\φ m=φ i) ->
  (∀p∈P,∃a b:Nat,a<n/\b<n/\p.getD 0 0=a/\p.getD 1 0=b/\φ a=φ b)->∀i,i<n->∃m:Nat,m<n/\(ch l P).getD i 0=m/\φ m=φ i
 | [],l,hl,h,_=>h
 | p::P,l,hl,h,hP=>by
  obtain⟨a,b,ha,hb,h0,h1,hab⟩:=hP p List.mem_cons_self;show ∀i,i<n->∃m:Nat,m<n/\(ch (da l _ _) P).getD i 0=m/\φ m=φ i;rw[h0,h1,Int.toNat_natCast,Int.toNat_natCast];exact xc (by rw[gO,hl]) (Sy hl h ha hb hab) fun q hq=>hP q (List.mem_cons_of_mem _ hq)
structure fJ(L:List Int)(i:Nat)(seen out:List Int):Prop where
 nd:seen.Nodup
 len:out.length=i
 o:∀j,j<i->∃k:Nat,k<seen.length/\out.getD j 0=k/\seen.getD k 0=L.getD j 0
 s:∀k:Nat,k<seen.length->∃j,j<i/\out.getD j 0=k
 f:∀j (m:Nat),j<i->(∀q,q<j->out.getD q 0<m)->out.getD j 0<=m
theorem fV{α:Type}{l:List α}{x d:α}{j:Nat}(h:j<=l.length):(l++[x]).getD j d=if j=l.length then x else l.getD j d:=by
 rw[List.getD_eq_getElem?_getD,List.getD_eq_getElem?_getD];by_cases e:j=l.length
 ·rw[if_pos e,List.getElem?_append_right (by omega),show j-l.length=0 by omega];rfl
 ·rw[if_neg e,List.getElem?_append_left (by omega)]
theorem fJ.zero{L:List Int}:fJ L 0 [] []:=⟨List.nodup_nil,rfl,fun _ hj=>absurd hj (Nat.not_lt_zero _),fun _ hk=>absurd hk (Nat.not_lt_zero _),fun _ _ hj=>absurd hj (Nat.not_lt_zero _)⟩
theorem fJ.le{L:List Int}{i:Nat}{seen out:List Int}(h:fJ L i seen out){m:Nat}(hm:∀q,q<i->out.getD q 0<m):seen.length<=m:=by
 cases hl:seen.length with
 | zero=>omega
 | succ k =>
  obtain⟨j,h1,h2⟩:=h.s k (by omega);have:=hm j h1;omega
theorem fJ.old{L:List Int}{i:Nat}{seen out:List Int}(h:fJ L i seen out){k:Nat}(hk:k<seen.length)(hx:seen.getD k 0=L.getD i 0):fJ L (i+1) seen (out++[(k:Int)]):=by
 have hl:=h.len;have hlt:∀{j},j<i->(out++[(k:Int)]).getD j 0=out.getD j 0:=fun hj=>by rw[fV (by omega),if_neg (by omega)]
 have he:(out++[(k:Int)]).getD i 0=k:=by rw[fV (by omega),if_pos hl.symm]
 refine⟨h.nd,by rw[List.length_append,hl];rfl,fun j hj=>?_,fun k' hk'=>?_,fun j m hj hm=>?_⟩
 ·by_cases hji:j<i
  ·rw[hlt hji];exact h.o j hji
  ·rw[show j=i by omega,he];exact⟨k,hk,rfl,hx⟩
 ·obtain⟨j,h1,h2⟩:=h.s k' hk'
  exact⟨j,by omega,by rw[hlt h1,h2]⟩
 ·by_cases hji:j<i
  ·rw[hlt hji]
   exact h.f j m hji fun q hq=>by have:=hm q hq;rwa [hlt (by omega)] at this
  ·obtain rfl:j=i:=by omega
   rw[he];have:=h.le (m:=m) fun q hq=>by have:=hm q hq;rwa [hlt hq] at this
   omega
theorem fJ.new{L:List Int}{i:Nat}{seen out:List Int}(h:fJ L i seen out)(hx:L.getD i 0 ∉ seen):fJ L (i+1) (seen++[L.getD i 0]) (out++[(seen.length:Int)]):=by
 have hl:=h.len;have hlt:∀{j},j<i->(out++[(seen.length:Int)]).getD j 0=out.getD j 0:=fun hj=>by rw[fV (by omega),if_neg (by omega)]
 have he:(out++[(seen.length:Int)]).getD i 0=seen.length:=by rw[fV (by omega),if_pos hl.symm]
 refine⟨?_,by rw[List.length_append,hl];rfl,fun j hj=>?_,fun k' hk'=>?_,fun j m hj hm=>?_⟩
 ·rw[List.nodup_append]
  refine⟨h.nd,by simp,fun a ha b hb=>?_⟩;rw[List.mem_singleton] at hb;rintro rfl;exact hx (hb▸ha)
 ·by_cases hji:j<i
  ·rw[hlt hji]
   obtain⟨k,k1,k2,k3⟩:=h.o j hji;exact⟨k,by rw[List.length_append];omega,k2,by rw[fV (by omega),if_neg (by omega),k3]⟩
  ·rw[show j=i by omega,he]
   exact⟨seen.length,by rw[List.length_append];exact Nat.lt_succ_self _,rfl,by rw[fV (Nat.le_refl _),if_pos rfl]⟩
 ·rw[List.length_append,List.length_singleton] at hk'
  by_cases hk:k'<seen.length
  ·obtain⟨j,h1,h2⟩:=h.s k' hk
   exact⟨j,by omega,by rw[hlt h1,h2]⟩
  ·exact⟨i,by omega,by rw[he];omega⟩
 ·by_cases hji:j<i
  ·rw[hlt hji]
   exact h.f j m hji fun q hq=>by have:=hm q hq;rwa [hlt (by omega)] at this
  ·obtain rfl:j=i:=by omega
   rw[he];have:=h.le (m:=m) fun q hq=>by have:=hm q hq;rwa [hlt hq] at this
   omega
def jj(p:List Int×List Int)(x:Int):List Int×List Int:=if iP p.1 x<0 then(p.1++[x],p.2++[(p.1.length:Int)]) else(p.1,p.2++[iP p.1 x])
def dP(l:List Int):List Int×List Int:=l.foldl jj ([],[])
theorem v8{l:List Int}{x:Int}:dP (l++[x])=jj (dP l) x:=by unfold dP;rw[List.foldl_append];rfl
def dO(l:List Int):List Int:=(dP l).2
theorem Mx{l:List Int}{x:Int}(h:¬iP l x<0):∃k:Nat,iP l x=k/\k<l.length/\l.getD k 0=x:=by
 unfold iP at h|-
 by_cases hl:l.findIdx (·== x)<l.length
 ·refine⟨l.findIdx (·== x),by rw[if_pos hl],hl,?_⟩
  have:=List.findIdx_getElem (w:=hl);rw[aO hl];simpa using this
 ·rw[if_neg hl] at h;omega
theorem Mw{l:List Int}{x:Int}(h:iP l x<0):x ∉ l:=fun hm=>by
 unfold iP at h;rw[if_pos (List.findIdx_lt_length_of_exists ⟨x,hm,by simp⟩)] at h;omega
theorem nx{L:List Int}:∀i,i<=L.length->fJ L i (dP (L.take i)).1 (dP (L.take i)).2
 | 0,_=>fJ.zero
 | i+1,h=>by
  have ih:=nx (L:=L) i (by omega);rw[bT (show i<L.length by omega) 0,v8];unfold jj;split
  ·rename_i hx;exact ih.new (Mw hx)
  ·rename_i hx
   obtain⟨k,h1,h2,h3⟩:=Mx hx;rw[h1];exact ih.old h2 h3
structure lL(L out:List Int):Prop where
 len:out.length=L.length
 ge:∀i,i<L.length->0<=out.getD i 0/\out.getD i 0<L.length
 f:∀i (m:Nat),i<L.length->(∀q,q<i->out.getD q 0<m)->out.getD i 0<=m
 eq:∀i j,i<L.length->j<L.length->(out.getD i 0=out.getD j 0↔L.getD i 0=L.getD j 0)
theorem EY{l:List Int}(h:l.Nodup){a b:Nat}(ha:a<l.length)(hb:b<l.length)(e:l.getD a 0=l.getD b 0):a=b:=by
 rw[aO ha,aO hb] at e;exact(List.getElem_inj h).1 e
theorem fJ.sle{L:List Int}{i:Nat}{seen out:List Int}(h:fJ L i seen out)(hi:i<=L.length):seen.length<=i:=by
 have:seen.length<=(L.take i).length:=EZ h.nd fun x hx=>by
  obtain⟨k,hk,rfl⟩:=List.getElem_of_mem hx;obtain⟨j,h3,h4⟩:=h.s k hk;obtain⟨k',h5,h6,h7⟩:=h.o j h3;rw[<-aO (d:=0) hk,show k=k' by omega,h7,aO (show j<L.length by omega)];exact List.mem_take_iff_getElem.2 ⟨j,by omega,rfl⟩
 rw[List.length_take] at this;omega
theorem fJ.done{L seen out:List Int}(h:fJ L L.length seen out):lL L out:=by
 refine⟨h.len,fun i hi=>?_,h.f,fun i j hi hj=>?_⟩
 ·obtain⟨k,h1,h2,_⟩:=h.o i hi
  refine⟨by omega,?_⟩;have:=h.sle (Nat.le_refl _);omega
 ·obtain⟨a,a1,a2,a3⟩:=h.o i hi
  obtain⟨b,b1,b2,b3⟩:=h.o j hj;rw[a2,b2,<-a3,<-b3];exact⟨fun e=>by rw[show a=b by omega],fun e=>by rw[EY h.nd a1 b1 e]⟩
theorem v7{L:List Int}:lL L (dO L):=by
 have:=nx (L:=L) L.length (Nat.le_refl _);rw[List.take_length] at this;exact this.done
theorem E8{n:Nat}{β:Type}{φ:Nat->β}(i:Nat)(hi:i<n):∃m:Nat,m<n/\(((List.range n).map fun j:Nat=>(j:Int))).getD i 0=m/\φ m=φ i :=
 ⟨i,hi,by rw[List.getD_eq_getElem?_getD,List.getElem?_map,List.getElem?_range hi];rfl,rfl⟩
def bw(n:Nat):List Int:=(List.range n).map fun j:Nat=>(j:Int)
theorem dI{n:Nat}:(bw n).length=n:=by simp[bw]
theorem lL.same{n:Nat}{P:List (List Int)}{out:List Int}(h:lL (ch (bw n) P) out){β:Type}(φ:Nat->β)(hP:∀p∈P,∃a b:Nat,a<n/\b<n/\p.getD 0 0=a/\p.getD 1 0=b/\φ a=φ b)
  {i j:Nat} (hi:i<n) (hj:j<n) (e:out.getD i 0=out.getD j 0):φ i=φ j:=by
 have hl:(ch (bw n) P).length=n:=by rw[ri,dI]
 rw[h.eq i j (by omega) (by omega)] at e;obtain⟨a,_,a1,a2⟩:=xc (φ:=φ) dI E8 hP i hi;obtain⟨b,_,b1,b2⟩:=xc (φ:=φ) dI E8 hP j hj;rw[<-a2,<-b2,show a=b by omega]
end Go.D3
namespace Go.D3
open Go
set_option maxRecDepth 100000
def kx(mp:List (List Int))(l:List Int):List (List Int):=l.foldl (fun m (e:Int)=>m.set e.toNat (m.getD e.toNat []++[-1])) mp
theorem Kq{mp:List (List Int)}{l:List Int}{e:Int}:kx mp (l++[e])=(kx mp l).set e.toNat ((kx mp l).getD e.toNat []++[-1]):=by
 unfold kx;rw[List.foldl_append];rfl
theorem sD{mp:List (List Int)}:∀{l:List Int},(kx mp l).length=mp.length:=by
 intro l;induction l generalizing mp with
 | nil=>rfl
 | cons e l ih=>show(kx _ l).length=_;rw[ih,List.length_set]
theorem tf{α:Type}{l:List α}{i j:Nat}{x d:α}(h:i<l.length):(l.set i x).getD j d=if j=i then x else l.getD j d:=by
 rw[List.getD_eq_getElem?_getD,List.getElem?_set];by_cases hij:i=j
 ·subst hij;rw[if_pos rfl,if_pos h,if_pos rfl];rfl
 ·rw[if_neg hij,if_neg (Ne.symm hij),List.getD_eq_getElem?_getD]
theorem BY{mp:List (List Int)}{fr:List Int}{x:Int}:∀{n:Nat},n<=mp.length->∀e:Nat,(kx mp (pQ fr x n)).getD e []=if e<n/\fr.getD e 0=x then mp.getD e []++[-1] else mp.getD e []
 | 0,_,e=>by rw[if_neg (by omega)];rfl
 | n+1,hn,e=>by
  have ih:=fun e=>BY (mp:=mp) (fr:=fr) (x:=x) (n:=n) (by omega) e
  rw[Rv];by_cases h:fr.getD n 0=x
  ·rw[if_pos h,Kq,Int.toNat_natCast,tf (by rw[sD];omega),ih n,ih e,if_neg (show ¬(n<n/\fr.getD n 0=x) from fun hh=>Nat.lt_irrefl _ hh.1)]
   by_cases he:e=n
   ·subst he;rw[if_pos rfl,if_pos ⟨by omega,h⟩]
   ·rw[if_neg he]
    by_cases hc:e<n/\fr.getD e 0=x
    ·rw[if_pos hc,if_pos ⟨by omega,hc.2⟩]
    ·rw[if_neg hc,if_neg (fun hh=>hc ⟨by omega,hh.2⟩)]
  ·rw[if_neg h,List.append_nil,ih e]
   by_cases hc:e<n/\fr.getD e 0=x
   ·rw[if_pos hc,if_pos ⟨by omega,hc.2⟩]
   ·rw[if_neg hc,if_neg]
    rintro⟨h1,h2⟩;by_cases he:e=n
    ·subst he;exact h h2
    ·exact hc ⟨by omega,h2⟩
structure vz(s:Sch)(d:bm):Prop where
 nd:(d.sz.length:Int)=s.nd
 mp:d.mp.length=s.fr.length
 nf:∀i,i<d.sz.length->0<=d.sz.getD i 0/\d.sz.getD i 0<=16
 len:∀e,e<d.mp.length->((d.mp.getD e []).length:Int)=d.sz.getD (s.fr.getD e 0).toNat 0
 val:∀e i,e<d.mp.length->i<(d.mp.getD e []).length->-1<=(d.mp.getD e []).getD i 0/\(d.mp.getD e []).getD i 0<d.sz.getD (s.to.getD e 0).toNat 0
def bm.can(s:Sch)(d:bm)(c:bA):Bool :=
 c.okB&&(if c.kd=1 then bq c.fi 0 (s.nd-1)&&!(d.sz.getD c.fi.toNat 0 == 16)
  else bq c.fi 0 ((s.fr.length:Int)-1)&&bq c.se 0 (d.sz.getD (s.fr.getD c.fi.toNat 0).toNat 0-1)&&bq c.th 0 (d.sz.getD (s.to.getD c.fi.toNat 0).toNat 0-1))
def bm.app(s:Sch)(d:bm)(c:bA):bm :=
 if c.kd=1 then⟨d.sz.set c.fi.toNat (d.sz.getD c.fi.toNat 0+1),kx d.mp (pQ s.fr c.fi s.fr.length)⟩
 else⟨d.sz,d.mp.set c.fi.toNat ((d.mp.getD c.fi.toNat []).set c.se.toNat c.th)⟩
structure gD(s:Sch):Prop where
 n0 : 0<=s.nd
 n8:s.nd<=8
 f8:s.fr.length<=8
 to:s.to.length=s.fr.length
 fr:cN s.nd s.fr=true
 vf:cN s.nd s.to=true
theorem fg{s:Sch}(h:s.gr=true):gD s:=by
 simp only[Sch.gr,Bool.and_eq_true,decide_eq_true_eq] at h;obtain⟨h1,h2,hto,hf,ht⟩:=h;have hn : 0<=s.nd/\s.nd<=8:=by unfold bq at h1;simpa using h1
 exact⟨hn.1,hn.2,h2,hto,hf,ht⟩
theorem vz.app{s:Sch}{d:bm}{c:bA}(hs:gD s)(h:vz s d)(hc:d.can s c=true):vz s (d.app s c):=by
 unfold bm.can at hc;rw[Bool.and_eq_true] at hc;unfold bm.app;by_cases hk:c.kd=1
 ·rw[if_pos hk]
  rw[if_pos hk] at hc;simp only[Bool.and_eq_true,bq,decide_eq_true_eq,Bool.not_eq_true',beq_eq_false_iff_ne] at hc;obtain⟨_,⟨h0,h1⟩,h16⟩:=hc;have hnd:=h.nd;have hlt:c.fi.toNat<d.sz.length:=by omega
  have hmf:=h.mp;have hget:∀j,(d.sz.set c.fi.toNat (d.sz.getD c.fi.toNat 0+1)).getD j 0=if j=c.fi.toNat then d.sz.getD c.fi.toNat 0+1 else d.sz.getD j 0:=fun j=>tf hlt
  have hmp:∀e,(kx d.mp (pQ s.fr c.fi s.fr.length)).getD e []=if e<s.fr.length/\s.fr.getD e 0=c.fi then d.mp.getD e []++[-1] else d.mp.getD e []:=BY (by omega)
  have h16':=h.nf _ hlt;refine⟨by simpa using hnd,by rw[sD];exact hmf,fun i hi=>?_,fun e he=>?_,fun e i he hi=>?_⟩
  ·simp only[List.length_set] at hi
   simp only[hget];split
   ·omega
   ·exact h.nf i hi
  ·simp only[sD] at he
   simp only[hget,hmp];have hfe:=fP hs.fr (show e<s.fr.length by omega);have hle:=h.len e he;by_cases hx:s.fr.getD e 0=c.fi
   ·rw[if_pos ⟨by omega,hx⟩,hx,if_pos rfl,List.length_append,<-hx]
    simp only[List.length_cons,List.length_nil];omega
   ·rw[if_neg (fun hh=>hx hh.2),if_neg (fun hh=>hx (by omega))]
    exact hle
  ·simp only[sD] at he
   simp only[hget];simp only[hmp] at hi|-
   have hte:=fP hs.vf (show e<s.to.length by rw[hs.to];omega)
   have up:∀v:Int,v<d.sz.getD (s.to.getD e 0).toNat 0->v<if(s.to.getD e 0).toNat=c.fi.toNat then d.sz.getD c.fi.toNat 0+1 else d.sz.getD (s.to.getD e 0).toNat 0:=by
    intro v hv;split
    ·rename_i hh;rw[hh] at hv;omega
    ·exact hv
   have hpos : -1<d.sz.getD (s.to.getD e 0).toNat 0:=by have:=(h.nf (s.to.getD e 0).toNat (by omega)).1;omega
   by_cases hx:e<s.fr.length/\s.fr.getD e 0=c.fi
   ·rw[if_pos hx] at hi|-
    rw[List.getD_eq_getElem?_getD,List.getElem?_append];by_cases hi2:i<(d.mp.getD e []).length
    ·rw[if_pos hi2,<-List.getD_eq_getElem?_getD]
     have:=h.val e i he hi2;exact⟨this.1,up _ this.2⟩
    ·rw[if_neg hi2]
     have:i-(d.mp.getD e []).length=0:=by rw[List.length_append,List.length_cons,List.length_nil] at hi;omega
     rw[this];exact⟨by simp,up _ (by simpa using hpos)⟩
   ·rw[if_neg hx] at hi|-
    have:=h.val e i he hi;exact⟨this.1,up _ this.2⟩
 ·rw[if_neg hk]
  rw[if_neg hk] at hc;simp only[Bool.and_eq_true,bq,decide_eq_true_eq] at hc;obtain⟨_,⟨⟨h0,h1⟩,h2,h3⟩,h4,h5⟩:=hc;have hmf:=h.mp;have hlt:c.fi.toNat<d.mp.length:=by omega
  have hget:∀e,(d.mp.set c.fi.toNat ((d.mp.getD c.fi.toNat []).set c.se.toNat c.th)).getD e []=if e=c.fi.toNat then(d.mp.getD c.fi.toNat []).set c.se.toNat c.th else d.mp.getD e []:=fun e=>tf hlt
  have hl:=h.len _ hlt;refine⟨h.nd,by simpa using hmf,h.nf,fun e he=>?_,fun e i he hi=>?_⟩
  ·simp only[List.length_set] at he
   simp only[hget];split
   ·rename_i hh;rw[List.length_set,hh];exact hl
   ·exact h.len e he
  ·simp only[List.length_set] at he
   simp only[hget] at hi|-
   split at hi
   ·rename_i hh
    rw[if_pos hh,tf (by omega)];subst hh;split
    ·omega
    ·exact h.val _ i he (by simpa using hi)
   ·rename_i hh
    rw[if_neg hh];exact h.val e i he hi
end Go.D3
namespace Go.D3
open Go
set_option maxHeartbeats 4000000
set_option maxRecDepth 100000
end Go.D3
