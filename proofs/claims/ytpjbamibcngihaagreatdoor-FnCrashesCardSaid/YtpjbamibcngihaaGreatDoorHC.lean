/- PARTS ARE TAKEN OUT OF OBJECTS: 'takeK', 'absK', 'absL'. Generic. -/
import Derived.Test.YtpjbamibcngihaaGreatDoorHB
import Derived.MapKept
import Derived.Laws.RangeAny
import Derived.Laws.BytesString
import Derived.Lib.ConvBytes
namespace Go.D3
open Go
section
variable{op:Op}
theorem uB{x:Operand}(h:uA op=some x):op=.move x\/op=.assign x:=by cases op<;>simp_all[uA]
theorem SQ{a b c:Operand}(h:yF op=some (c,a,b)):op=.pick c a b:=by cases op<;>simp_all[yF]
theorem rq{q:BinOp}{t:TypeId}{x y:Operand}(h:og op=some (q,t,x,y)):∃u,op=.binOp q t x y u:=by cases op<;>simp_all[og]
theorem SR{t:TypeId}{x:Operand}(h:yG op=some (t,x)):op=.range t x:=by cases op<;>simp_all[yG]
theorem SP{x:Operand}(h:yE op=some x):op=.next x true:=by
 cases op<;>simp[yE] at h;rename_i y b;cases b<;>simp at h;rw[h]
theorem SO{x:Operand}(h:yD op=some x):∃t,op=.unOp .not t x:=by
 cases op<;>simp[yD] at h;rename_i q t z;cases q<;>simp at h;exact⟨t,by rw[h]⟩
theorem yp{s t:TypeId}{x:Operand}(h:rr op=some (s,t,x)):op=.convert s t x:=by cases op<;>simp_all[rr]
theorem mG{b:Builtin}{xs:List Operand}{ts:List TypeId}(h:lu b op=some (xs,ts)):op=.call { callee:=.builtin b,args:=xs.toArray,argTypes:=ts.toArray }:=by
 cases op<;>simp[lu] at h;rename_i c;obtain⟨ce,as,tys⟩:=c;cases ce<;>simp at h;obtain⟨rfl,rfl,rfl⟩:=h;rfl
theorem yo{f:FuncId}{xs:List Operand}(h:oh op=some (f,xs)):∃ts,op=.call { callee:=.value (.func f),args:=xs.toArray,argTypes:=ts }:=by
 cases op<;>simp[oh] at h;rename_i c;obtain⟨ce,as,tys⟩:=c;cases ce<;>simp at h;rename_i v;cases v<;>simp at h;obtain⟨rfl,rfl⟩:=h;exact⟨tys,rfl⟩
theorem SH{t:TypeId}{x y:Operand}(h:yu op=some (t,x,y)):op=.indexAddr t x y:=by cases op<;>simp_all[yu]
theorem Gk{t:TypeId}{x:Operand}(h:uz op=some (t,x)):op=.load t x:=by cases op<;>simp_all[uz]
theorem Gn{t:TypeId}{x y:Operand}(h:rv op=some (t,x,y)):op=.store t x y:=by cases op<;>simp_all[rv]
theorem Gi{t:TypeId}{x:Operand}{f:Nat}(h:yt op=some (t,x,f)):op=.fieldAddr t x f:=by cases op<;>simp_all[yt]
theorem Gj{t:TypeId}{x:Operand}{f:Nat}(h:uy op=some (t,x,f)):op=.field t x f:=by cases op<;>simp_all[uy]
theorem SE{t:TypeId}{ps:Array (Nat×Operand)}(h:ym op=some (t,ps)):op=.build t ps:=by cases op<;>simp_all[ym]
theorem SI{t:TypeId}{x y:Operand}(h:yv op=some (t,x,y)):op=.index t x y:=by cases op<;>simp_all[yv]
theorem SG{x:Operand}{i:Nat}(h:yr op=some (x,i)):op=.extract x i:=by cases op<;>simp_all[yr]
theorem Gl{x:Operand}(h:yC op=some x):op=.nilCheck x:=by cases op<;>simp_all[yC]
theorem yn{t:TypeId}{x:Operand}(h:ux op=some (t,x)):op=.box t x:=by cases op<;>simp_all[ux]
theorem SD{t:TypeId}(h:yl op=some t):op=.alloc t:=by cases op<;>simp_all[yl]
theorem SL{t:TypeId}{x y:Operand}(h:yz op=some (t,x,y)):op=.makeSlice t x y:=by cases op<;>simp_all[yz]
theorem Gh{t:TypeId}{n:Nat}{ps:Array (Nat×Operand)}(h:uw op=some (t,n,ps)):op=.buildSlice t n ps:=by cases op<;>simp_all[uw]
theorem Gm{t:TypeId}{x:Operand}{lo hi:Option Operand}(h:uC op=some (t,x,lo,hi)):op=.slice t x lo hi none:=by
 cases op<;>simp[uC] at h;rename_i t' x' a b c;cases c<;>simp at h;obtain⟨rfl,rfl,rfl,rfl⟩:=h;rfl
theorem SM{f:FuncId}{a b:Array Operand}(h:yA op=some (f,a,b)):op=.makeFunc (.func f) a b:=by
 cases op<;>simp[yA] at h;rename_i fn x y;cases fn<;>simp at h;obtain⟨rfl,rfl,rfl⟩:=h;rfl
end
theorem vn{P:Program}{t:TypeId}{n:Nat}(h:dB P t n=true):∃i,P.info? t=some i/\i.size=n:=by
 unfold dB at h;cases hi:P.info? t with
 | none=>simp[hi] at h
 | some i=>simp[hi] at h;exact⟨i,rfl,h⟩
theorem kG{P:Program}{t e:TypeId}(h:iY P t=some e):P.underlying t=some (.slice e):=by
 unfold iY at h;split at h<;>simp_all
theorem fa{x:D}{r:Option PR}{side:Prop}{d:D}(h:g1 x r=some (side,d)):∃s,r=some (s,d)/\side=(x.gate=true/\s):=by
 cases r with
 | none=>cases h
 | some p=>obtain⟨s,d'⟩:=p;simp only[g1,Option.some.injEq,Prod.mk.injEq] at h;obtain⟨h1,rfl⟩:=h;exact⟨s,rfl,h1.symm⟩
theorem l9{x y:D}{r:Option PR}{side:Prop}{d:D}(h:g2 x y r=some (side,d)):∃s,r=some (s,d)/\side=((x.gate=true/\y.gate=true)/\s):=by
 cases r with
 | none=>cases h
 | some p=>obtain⟨s,d'⟩:=p;simp only[g2,Option.some.injEq,Prod.mk.injEq] at h;obtain⟨h1,rfl⟩:=h;exact⟨s,rfl,h1.symm⟩
section
variable{P:Program}{o:Oper}{w:World}{A:Nat->Prop}{ct:Nat->D}{vl:Nat->Value}{a:Act}{ds:List (Option Nat)}{tr:List Nat}{rd:X->D}{ob:Nat->D}
theorem Nd{c:D}{p:Path}(h:c.eo p):c.isObj=true:=nP h.1
theorem qZ(hob:∀j,(ct j).isObj=true->ob j=ct j){v:Value}{k:Nat}{p:Path}(h:aj w ct vl v (.sub k p)):lk ob k=some (ct k):=by
 have:=Nd h.1;unfold lk;rw[hob k this,if_pos this]
theorem xS(hob:∀j,(ct j).isObj=true->ob j=ct j){v:Value}{k:Nat}{p:Path}(h:kM w ct vl v k p):lk ob k=some (ct k):=by
 have:=nP h.1;unfold lk;rw[hob k this,if_pos this]
theorem Oc{y:D}{v:Value}{F:Nat->Prop}{n:Nat}(h:an w A v y F)(hn:y.ck=some n):∃q c,v=.slice q n c/\n<=maxLen:=by
 cases y<;>simp[D.ck] at hn<;>try(cases h;done)
 subst hn;obtain⟨p,cap,h1,h2,h3,_⟩:=uG h;exact⟨p,cap,h1,by omega⟩
theorem Od{y:D}{v:Value}{n:Nat}(h:Rd w A v y)(hn:y.ck=some n):∃q c,v=.slice q n c/\n<=maxLen:=by
 cases y<;>simp[D.ck] at hn<;>try(cases h;done)
 ·subst hn
  obtain⟨p,cap,h1,h2,h3,_⟩:=y5 h;exact⟨p,cap,h1,by omega⟩
 ·subst hn;cases h;exact⟨_,_,rfl,by simp⟩
theorem Oe(hob:∀j,(ct j).isObj=true->ob j=ct j)(hok:∀j,∃F,aK w A (aj w ct vl) (vl j) F (ct j)){v:Value}{x:D}(hv:Pl w A (aj w ct vl) v x){side:Prop}{d:D}(h:mw ob x=some (side,d)) :
  ∃(n:Nat)(q:Option Addr)(c:Nat),d=.int .i64 n/\v=.slice q n c/\n<=maxLen:=by
 unfold mw at h;split at h
 ·rename_i k p
  have hr:=dW hv;rw[qZ hob hr,Option.bind_some,Option.bind_eq_some_iff] at h;obtain⟨n,hn,h⟩:=h;simp only[one,Option.some.injEq,Prod.mk.injEq] at h;obtain⟨_,rfl⟩:=h;obtain⟨F,hF⟩:=hok k;rcases lF hF hr with⟨z,l,hc,rfl,hvl⟩ | ⟨F',hown,_⟩
  ·rw[hc] at hn hF
   obtain⟨b,sz,cs,e,h1,h2,h3,h4,_⟩:=hF;simp only[D.bm,D.at,D.un,D.ck,Option.some.injEq] at hn;subst hn;exact⟨_,_,_,rfl,hvl.trans h1,h4⟩
  ·obtain⟨q,c,h1,h2⟩:=Oc hown hn
   exact⟨_,_,_,rfl,h1,h2⟩
 ·rename_i hns
  rw[Option.bind_eq_some_iff] at h;obtain⟨n,hn,h⟩:=h;simp only[one,Option.some.injEq,Prod.mk.injEq] at h;obtain⟨_,rfl⟩:=h
  have hne:∀z l,x≠.row z l:=by
   rintro z l rfl;cases hv with
   | rd h=>cases h
   | ref h=>exact h.elim
  have hrd:Rd w A v x:=by
   cases x<;>simp[D.ck] at hn
   ·exact oq hv
   ·exact absurd rfl (hne _ _)
   ·exact b6 hv (by simp) (by simp) (by simp) (by simp) (by simp)
  obtain⟨q,c,h1,h2⟩:=Od hrd hn;exact⟨_,_,_,rfl,h1,h2⟩
theorem TA{z:D}{L:List D}{v:Value}(h:Rd w A v (.slice z L)){n:Nat}(hn:n<L.length):∃b off c,v=.slice (some ⟨b,off,none⟩) L.length c/\Rd w A (.pointer (some ⟨b,off+n*z.cells.length,none⟩)) (.ptr (L.getD n z).cells)/\0<z.cells.length:=by
 have hL:L.getD n z=L[n]:=by rw[List.getD_eq_getElem?_getD,List.getElem?_eq_getElem hn];rfl
 cases h with
 | empty=>simp at hn
 | nil=>simp at hn
 | @slice _ _ b off cap sz hA hc hm hz hzz hsz vs hcells hr =>
  subst hzz;refine⟨b,off,cap,rfl,?_,hz⟩
  have key:∀(j:Nat) x,(L.getD n z).cells[j]?=some x->cellAt L z.cells.length (n*z.cells.length+j)=some x:=by
   intro j x hx;rw[hL] at hx;have hj:=(List.getElem?_eq_some_iff.1 hx).1;rw[hsz _ (List.getElem_mem hn)] at hj;unfold cellAt;have e1:(n*z.cells.length+j) / z.cells.length=n:=by rw[Nat.mul_comm,Nat.mul_add_div hz,Nat.div_eq_of_lt hj];rfl
   have e2:(n*z.cells.length+j) % z.cells.length=j:=by rw[Nat.mul_comm,Nat.mul_add_mod,Nat.mod_eq_of_lt hj]
   rw[e1,e2,List.getElem?_eq_getElem hn];exact hx
  refine .ptr hA (fun j=>vs (n*z.cells.length+j)) (fun j x hx=>?_) (fun j x hx=>hr _ _ (key j x hx));have:=hcells _ _ (key j x hx)
  rwa [<-Nat.add_assoc] at this
theorem Fg(hob:∀j,(ct j).isObj=true->ob j=ct j)(hok:∀j,∃F,aK w A (aj w ct vl) (vl j) F (ct j)){v:Value}{x:D}(hv:Pl w A (aj w ct vl) v x){side:Prop}{d:D}(h:mq ob x=some (side,d)) :
  ∃b off u,v=.pointer (some ⟨b,off,none⟩)/\w.cell? ⟨b,off,none⟩=some u/\Pl w A (aj w ct vl) u d:=by
 unfold mq at h;split at h
 ·rename_i y r
  simp only[one,Option.some.injEq,Prod.mk.injEq] at h;obtain⟨_,rfl⟩:=h;obtain⟨b,off,h1,h2,h3⟩:=pQ hv;obtain⟨u,h4,h5⟩:=h3 0 y rfl;exact⟨b,off,u,h1,h4,.rd h5⟩
 ·rename_i k p
  have hr:=fR hv;rw[xS hob hr,Option.bind_some] at h;simp only[one,Option.some.injEq,Prod.mk.injEq] at h;obtain⟨_,rfl⟩:=h;obtain⟨h1,ad,h2,h3⟩:=hr;obtain⟨F,hF⟩:=hok k;obtain⟨u,h4,h5,h6⟩:=xU hF h1 (by rintro rfl;simp[aH] at h2) h2;obtain⟨b,off,sp⟩:=ad;simp only at h5;cases sp with
  | some _=>simp at h5
  | none=>exact⟨b,off,u,h3,h4,h6⟩
 ·cases h
theorem qv(hok:∀j,∃F,aK w A (aj w ct vl) (vl j) F (ct j)){v:Value}{k:Nat}{p:Path}(hr:kM w ct vl v k p):∃b off,v=.pointer (some ⟨b,off,none⟩)/\p≠[]/\aH w (vl k) (ct k) p=some ⟨b,off,none⟩:=by
 obtain⟨h1,ad,h2,h3⟩:=hr;have hne:p≠[]:=by rintro rfl;simp[aH] at h2
 obtain⟨F,hF⟩:=hok k;obtain⟨u,h4,h5,h6⟩:=xU hF h1 hne h2;obtain⟨b,off,sp⟩:=ad;simp only at h5;cases sp with
 | some _=>simp at h5
 | none=>exact⟨b,off,h3,hne,h2⟩
theorem De{p:Path}(n:Nat)(h:p≠[]):bump p n≠[]:=by
 match p with
 | []=>exact absurd rfl h
 | [_]=>simp[bump]
 | _::_::_=>simp[bump]
theorem NS{v:Value}{x:D}{i off n:Nat}{b o':Nat}(h:dU v x i off=some ⟨b,o',none⟩):dU v x i (off+n)=some ⟨b,o'+n,none⟩:=by
 unfold dU at *;cases hx:x.un<;>rw[hx] at h<;>simp only[er] at h|-<;>try(cases h;done)
 all_goals
  split at h
  ·rename_i ad _ _
   simp only[Option.some.injEq,Addr.mk.injEq] at h|-
   obtain⟨h1,h2,h3⟩:=h;exact⟨h1,by omega,h3⟩
  ·cases h
theorem qu{n:Nat}:∀(p:Path){v:Value}{x:D}{b o':Nat},aH w v x p=some ⟨b,o',none⟩->aH w v x (bump p n)=some ⟨b,o'+n,none⟩
 | [],_,_,_,_,h=>by simp[aH] at h
 | [(i,off)],v,x,b,o',h=>NS h
 | (i,off)::t::p,v,x,b,o',h=>by
  simp only[aH,Option.bind_eq_some_iff] at h;obtain⟨u,h1,h2⟩:=h;have:=qu (n:=n) (t::p) h2;obtain⟨i',off'⟩:=t;cases p<;>simp only[bump,aH,h1,Option.bind_some] at this|-<;>exact this
theorem Fw(k:Nat)(c:D)(p:Path):∀(n j m:Nat),(looks k c p n j)[m]?=if m<n then some (nY k c (bump p (j+m))) else none
 | 0,j,m=>by simp[looks]
 | n+1,j,0=>by simp[looks]
 | n+1,j,m+1=>by
  simp only[looks,List.getElem?_cons_succ,Fw k c p n (j+1) m,Nat.add_lt_add_iff_right];rw[show j+1+m=j+(m+1) by omega]
theorem Fx(k:Nat)(c:D)(p:Path):∀(n j:Nat),(looks k c p n j).length=n
 | 0,_=>rfl
 | n+1,j=>by simp[looks,Fx k c p n]
theorem EL{c:D}{p:Path}:∀{n j:Nat},qU c p n j->∀m,m<n->c.aX (bump p (j+m))
 | 0,_,_,m,hm=>by omega
 | n+1,j,h,0,_=>h.1
 | n+1,j,h,m+1,hm=>by
  have:=EL h.2 m (by omega)
  rwa [show j+1+m=j+(m+1) by omega] at this
theorem Fh(hob:∀j,(ct j).isObj=true->ob j=ct j)(hok:∀j,∃F,aK w A (aj w ct vl) (vl j) F (ct j)){n:Nat}{v:Value}{x:D}(hv:Pl w A (aj w ct vl) v x){side:Prop}{d:D}(h:mu n ob x=some (side,d))(hs:side) :
  ∃(b off:Nat)(cs:List Value),v=.pointer (some ⟨b,off,none⟩)/\cs.length=n/\(∀j u,cs[j]?=some u->w.cell? ⟨b,off+j,none⟩=some u)/\Pl w A (aj w ct vl) (.agg cs.toArray) d:=by
 have fin:∀(b off:Nat)(l:List D)(us:Nat->Value),l.length=n->(∀j x,l[j]?=some x->w.cell? ⟨b,off+j,none⟩=some (us j)/\Pl w A (aj w ct vl) (us j) x)->v=.pointer (some ⟨b,off,none⟩) ->
   ∃(b off:Nat)(cs:List Value),v=.pointer (some ⟨b,off,none⟩)/\cs.length=n/\(∀j u,cs[j]?=some u->w.cell? ⟨b,off+j,none⟩=some u)/\Pl w A (aj w ct vl) (.agg cs.toArray) (.agg l):=by
  intro b off l us hl hc hv;refine⟨b,off,(List.range n).map us,hv,by simp,fun j u hj=>?_,.agg (by simp[hl]) fun j x hx=>?_⟩
  ·rw[List.getElem?_map,Option.map_eq_some_iff] at hj
   obtain⟨m,hm,rfl⟩:=hj;obtain⟨h1,h2⟩:=List.getElem?_eq_some_iff.1 hm;simp at h1 h2;subst h2;exact(hc j l[j] (List.getElem?_eq_getElem (by omega))).1
  ·have hj:=(List.getElem?_eq_some_iff.1 hx).1
   have:((List.range n).map us).toArray.getD j undef=us j:=by simp[show j<n by omega]
   rw[this];exact(hc j x hx).2
 unfold mu at h;split at h
 ·rename_i l
  simp only[Option.some.injEq,Prod.mk.injEq] at h;obtain⟨h0,rfl⟩:=h;rw[<-h0] at hs;obtain⟨b,off,h1,h2,h3⟩:=pQ hv
  have hch:∀j,∃u,∀x,l[j]?=some x->w.cell? ⟨b,off+j,none⟩=some u/\Rd w A u x:=by
   intro j;cases hj:l[j]? with
   | none=>exact⟨undef,by simp⟩
   | some x=>obtain⟨u,h4,h5⟩:=h3 j x hj;exact⟨u,fun y hy=>by injection hy with hy;subst hy;exact⟨h4,h5⟩⟩
  refine fin b off (l.take n) (fun j=>Classical.choose (hch j)) (by simp;omega) (fun j x hx=>?_) h1;rw[List.getElem?_take] at hx;split at hx
  ·obtain⟨h4,h5⟩:=Classical.choose_spec (hch j) x hx
   exact⟨h4,.rd h5⟩
  ·cases hx
 ·rename_i k p
  have hr:=fR hv;rw[xS hob hr,Option.bind_some] at h;simp only[Option.some.injEq,Prod.mk.injEq] at h;obtain⟨h0,rfl⟩:=h;rw[<-h0] at hs;obtain⟨b,off,h1,hne,h2⟩:=qv hok hr;obtain⟨F,hF⟩:=hok k
  have hch:∀j,∃u,j<n->w.cell? ⟨b,off+j,none⟩=some u/\Pl w A (aj w ct vl) u (nY k (ct k) (bump p j)):=by
   intro j;by_cases hj:j<n
   ·have h3:=EL hs j hj
    rw[Nat.zero_add] at h3;obtain⟨u,h4,_,h6⟩:=xU hF h3 (De _ hne) (qu p h2);exact⟨u,fun _=>⟨h4,h6⟩⟩
   ·exact⟨undef,fun h=>absurd h hj⟩
  refine fin b off _ (fun j=>Classical.choose (hch j)) (Fx _ _ _ _ _) (fun j x hx=>?_) h1;rw[Fw] at hx;split at hx
  ·rename_i hj
   injection hx with hx
   rw[Nat.zero_add] at hx;subst hx;exact Classical.choose_spec (hch j) hj
  ·cases hx
 ·cases h
end
end Go.D3
namespace Go.D3
open Go
def kindOk(d:TypeDesc)(k:D):Prop :=
 match d,k with
 | .int _,.int _ _=>True
 | .bool,.bool _=>True
 | .string,.str _=>True
 | _,_=>False
theorem E9{P:Program}{t:TypeId}{kk:Nat}{k:D}(ht:ml P t kk=true)(hk:k.jA kk=true):∃d,P.underlying t=some d/\kindOk d k:=by
 unfold ml at ht;split at ht<;>try(cases ht;done)
 all_goals
  rename_i hu;cases k<;>simp only[D.jA,Bool.false_eq_true] at hk<;>try(simp at hk;done)
  exact⟨_,hu,trivial⟩
theorem Vy{d:TypeDesc}{kv ev:Value}{k x:D}{b:Bool}(hd:kindOk d k)(hk:Sc kv k)(hx:Sc ev x)(h:lg k x=some b):Instr.sameNow d kv ev=some b/\(b=true->ev=kv/\x=k):=by
 unfold lg at h;split at h
 ·split at h
  ·rename_i hkk
   subst hkk;injection h with h
   cases hk;cases hx;cases d<;>try exact hd.elim
   subst h;refine⟨by simp[Instr.sameNow],fun hb=>?_⟩;have:=eq_of_beq hb;subst this;exact⟨rfl,rfl⟩
  ·cases h
 ·injection h with h
  cases hk;cases hx;cases d<;>try exact hd.elim
  rename_i a b' _ _;subst h;refine⟨?_,fun hb=>?_⟩
  ·simp only[Instr.sameNow,Option.some.injEq]
   rw[Bool.eq_iff_iff,MapKept.bytes_beq,beq_iff_eq];simp
  ·have:=eq_of_beq hb
   subst this;exact⟨rfl,rfl⟩
 ·injection h with h
  cases hk;cases hx;cases d<;>try exact hd.elim
  subst h;refine⟨rfl,fun hb=>?_⟩;have:=eq_of_beq hb;subst this;exact⟨rfl,rfl⟩
 ·cases h
theorem xl{d:TypeDesc}{kv:Value}{k:D}(hd:kindOk d k)(hk:Sc kv k):∀(l:List MapEntry)(ks:List D)(n:Nat){r:Option Nat},l.length=ks.length ->
  (∀(j:Nat)(e:MapEntry)(x:D),l[j]?=some e->ks[j]?=some x->Sc e.key x)->fC k ks=some r ->
  Instr.findNow d kv l n=some (r.map fun i=>(n+i,((l[i]?).map (·.val)).getD undef))/\∀i,r=some i->∃e,l[i]?=some e/\e.key=kv/\ks[i]?=some k
 | [],[],n,r,_,_,h=>by
  simp only[fC,Option.some.injEq] at h;subst h;exact⟨rfl,fun i hi=>by cases hi⟩
 | [],_::_,_,_,h,_,_=>by simp at h
 | _::_,[],_,_,h,_,_=>by simp at h
 | e::l,x::ks,n,r,hl,hs,h=>by
  simp only[fC,Option.bind_eq_some_iff] at h;obtain⟨b,hb,h⟩:=h;obtain⟨h1,h2⟩:=Vy hd hk (hs 0 e x rfl rfl) hb;cases b with
  | true =>
   simp only[if_true,Option.some.injEq] at h;subst h;obtain⟨h3,h4⟩:=h2 rfl;refine⟨by simp[Instr.findNow,h1],fun i hi=>?_⟩;injection hi with hi
   subst hi;exact⟨e,rfl,h3,by rw[h4];rfl⟩
  | false =>
   simp only[Bool.false_eq_true,if_false,Option.bind_eq_some_iff] at h;obtain⟨r',hr',h⟩:=h;injection h with h
   subst h;obtain⟨i1,i2⟩:=xl hd hk l ks (n+1) (by simpa using hl) (fun j e x hj hx=>hs (j+1) e x (by simpa using hj) (by simpa using hx)) hr';refine⟨?_,fun i hi=>?_⟩
   ·simp only[Instr.findNow,h1,i1]
    cases r' with
    | none=>rfl
    | some i=>simp only[Option.map_some,List.getElem?_cons_succ];rw[show n+1+i=n+(i+1) by omega]
   ·cases r' with
    | none=>cases hi
    | some j =>
     simp only[Option.map_some,Option.some.injEq] at hi;subst hi;obtain⟨e',e1,e2,e3⟩:=i2 j rfl;exact⟨e',by simpa using e1,e2,by simpa using e3⟩
theorem qF{P:Program}{w:World}{kt:TypeId}{d:TypeDesc}{k:D}{kv:Value}(hu:P.underlying kt=some d)(hd:kindOk d k)(hk:Sc kv k)(e:Bool)(n:Nat):(Instr.checkKey e (n+1) kt kv).run P w=.ok () w:=by
 unfold Instr.checkKey;simp only[Sem.run_bind,run_underlying hu,Result.andThen];cases d<;>cases k<;>first | exact hd.elim | (cases hk;simp)
theorem Sc.rd{w:World}{A:Nat->Prop}{v:Value}{d:D}(h:Sc v d):Rd w A v d:=by
 induction h with
 | int h=>exact .int h
 | bool=>exact .bool
 | str h=>exact .str h
 | agg hs _ ih=>exact .agg hs ih
theorem zH{w:World}{A:Nat->Prop}{v:Value}{d:D}(h:Rd w A v d)(hd:d.cP=true):Sc v d:=by
 cases h<;>first | cases hd | skip
 ·exact .int ‹_›
 ·exact .bool
 ·exact .str ‹_›
theorem E3{kk:Nat}{d:D}(h:d.jA kk=true):d.cP=true:=by cases d<;>first | rfl | (simp[D.jA] at h)
section
variable{P:Program}{o:Oper}{w:World}{A:Nat->Prop}{ct:Nat->D}{vl:Nat->Value}{a:Act}{ob:Nat->D}
theorem FF(hob:∀j,(ct j).isObj=true->ob j=ct j)(hok:∀j,∃F,aK w A (aj w ct vl) (vl j) F (ct j)){v:Value}{x:D}(h:Pl w A (aj w ct vl) v x){e:List D×List D}(hm:mapOf ob x=some e) :
  (v=.map none/\e=([],[]))\/∃r es clock,v=.map (some r)/\w.heap[r]?=some (.map es clock)/\nu es e.1 e.2:=by
 unfold mapOf at hm;split at hm
 ·rename_i k p
  have hr:=dW h;rw[qZ hob hr,Option.bind_some] at hm;obtain⟨F,hF⟩:=hok k;rcases lF hF hr with⟨z,l,hck,rfl,_⟩ | ⟨F',hown,_,_,_⟩
  ·rw[hck] at hm;cases hm
  ·generalize(ct k).bm p=y at hm hown
   cases hown<;>simp only[D.jE,reduceCtorEq,Option.some.injEq] at hm;subst hm;exact .inr ⟨_,_,_,rfl,‹_›,‹_›⟩
 ·rename_i hno
  have hrd:=b6 h (fun k p hh=>hno k p hh) (by rintro k p rfl;cases hm) (by rintro f c rfl;cases hm) (by rintro l rfl;cases hm) (by rintro l rfl;cases hm) (by rintro k p n rfl;cases hm);cases hrd<;>simp only[D.pI,reduceCtorEq,Option.some.injEq] at hm
  ·subst hm;exact .inr ⟨_,_,_,rfl,‹_›,‹_›⟩
  ·subst hm;exact .inl ⟨rfl,rfl⟩
theorem Ih{t:TypeId}{i:TypeInfo}{z:Value}(h:P.info? t=some i)(hz:i.zero=some z):(zeroValue t).run P w=.ok z w:=by
 simp[zeroValue,typeInfo,h,hz]
theorem On{t kt et:TypeId}{d:TypeDesc}{kv m zv:Value}{k:D}{e:List D×List D}{r:Option Nat}{i:TypeInfo}(ok:Bool)(hm:P.underlying t=some (.map kt et))(hu:P.underlying kt=some d)(hd:kindOk d k)(hk:Sc kv k)
  (hv:(m=.map none/\e=([],[]))\/∃r es clock,m=.map (some r)/\w.heap[r]?=some (.map es clock)/\nu es e.1 e.2) (hf:fC k e.1=some r) (hi:P.info? et=some i) (hz:i.zero=some zv) {z:D} (hzz:Sc zv z) :
  ∃u,(Instr.lookup t m kv ok).run P w=.ok (if ok then .tuple #[u,.bool r.isSome] else u) w/\Sc u (iU z e.2 r):=by
 rcases hv with⟨rfl,rfl⟩ | ⟨b,es,clock,rfl,hb,hE⟩
 ·simp only[fC,Option.some.injEq] at hf
  subst hf;refine⟨zv,?_,hzz⟩;unfold Instr.lookup;simp only[Sem.run_bind,run_underlying hm,Result.andThen_ok,Sem.run_pure,qF hu hd hk,MapKept.run_findKey hu (show Instr.findNow d kv (#[]:Array MapEntry).toList 0=some none from rfl),Ih hi hz];cases ok<;>rfl
 ·obtain⟨⟨l1,l2,l3⟩,s1,s2⟩:=hE
  obtain⟨f1,f2⟩:=xl hd hk es.toList e.1 0 (by simpa using l1) (fun j x y hj hy=>s1 j x y (by simpa using hj) hy) hf;cases r with
  | none =>
   refine⟨zv,?_,hzz⟩;unfold Instr.lookup;simp only[Sem.run_bind,run_underlying hm,Result.andThen_ok,Sem.run_pure,MapKept.run_getObj_map hb,qF hu hd hk,MapKept.run_findKey hu f1,Ih hi hz,Option.map_none];cases ok<;>rfl
  | some j =>
   obtain⟨x,x1,x2,x3⟩:=f2 j rfl;have hj:j<e.2.length:=by have:=(List.getElem?_eq_some_iff.1 x1).1;simp at this;omega
   refine⟨x.val,?_,?_⟩
   ·unfold Instr.lookup
    simp only[Sem.run_bind,run_underlying hm,Result.andThen_ok,Sem.run_pure,MapKept.run_getObj_map hb,qF hu hd hk,MapKept.run_findKey hu f1,Option.map_some,x1,Option.getD_some];cases ok<;>rfl
   ·have:iU z e.2 (some j)=e.2[j]:=by simp[iU,hj]
    rw[this];exact s2 j x _ (by simpa using x1) (List.getElem?_eq_getElem hj)
theorem P4{o:Oper}{a:Act}{neg:Bool}{v:Value}{d:D}(h:Pl w A (aj w ct vl) v d){side:Prop}{s:D}(hn:pL neg d=some (side,s)){t:TypeId}{ms:Array (String×TypeId)}(hu:P.underlying t=some (.interface ms)){x:Operand}{u:TypeId}(ho:o.op=.binOp (if neg then .neq else .eql) t x (.const .nilIface) u)(hx:a.eval x=v) :
  ∃b,s=.bool b/\(execOp a.eval o).run P w=.ok (.value (.bool b)) w:=by
 have hcn:a.eval (.const .nilIface)=.nilIface:=rfl;unfold pL at hn;split at hn
 ·simp only[Option.some.injEq,Prod.mk.injEq] at hn
  obtain⟨_,rfl⟩:=hn;have:=b6 h (by simp) (by simp) (by simp) (by simp) (by simp) (by simp);cases this;have e:∀n:Nat,(Op.equalIn (n+1) t .nilIface .nilIface).run P w=.ok true w:=fun n=>by simp[Op.equalIn,run_underlying hu]
  refine⟨_,rfl,?_⟩;cases neg<;>simp[execOp,ho,hx,hcn,eqGuard,binOp,Op.equal,Op.maxDepth,e 9999]
 ·rename_i t' y
  simp only[Option.some.injEq,Prod.mk.injEq] at hn;obtain⟨_,rfl⟩:=hn;have:=b6 h (by simp) (by simp) (by simp) (by simp) (by simp) (by simp);cases this;have e:∀n:Nat,∀v,(Op.equalIn (n+1) t (.iface t' v) .nilIface).run P w=.ok false w:=fun n v=>by simp[Op.equalIn,run_underlying hu]
  refine⟨_,rfl,?_⟩;cases neg<;>simp[execOp,ho,hx,hcn,eqGuard,binOp,Op.equal,Op.maxDepth,e 9999]
 ·cases hn
theorem SK{op:Op}{t:TypeId}(h:yx op=some t):op=.makeMap t none:=by
 cases op<;>simp[yx] at h;rename_i t' r;cases r<;>simp at h;rw[h]
theorem SJ{op:Op}{t:TypeId}{x i:Operand}{ok:Bool}(h:yw op=some (t,x,i,ok)):op=.lookup t x i ok:=by cases op<;>simp_all[yw]
theorem SN{op:Op}{t:TypeId}{m k v:Operand}(h:yB op=some (t,m,k,v)):op=.mapUpdate t m k v:=by cases op<;>simp_all[yB]
theorem ua{t k e:TypeId}(h:pG P t=some (k,e)):P.underlying t=some (.map k e):=by
 unfold pG at h;split at h
 ·rename_i hu
  injection h with h;injection h with h1 h2
  subst h1;subst h2;exact hu
 ·cases h
theorem XQ{t:TypeId}{d:D}(h:zeroV P t d=true):∃i z,P.info? t=some i/\i.zero=some z/\Sc z d:=by
 unfold zeroV at h;split at h
 ·rename_i i hi
  split at h
  ·rename_i z hz
   simp only[Bool.and_eq_true] at h;exact⟨i,z,hi,hz,zH (Cr (w:=default) (A:=fun _=>False) h.1) h.2⟩
  ·cases h
 ·cases h
theorem LY{w:World}{A:Nat->Prop}{vs:Nat->Value}:∀{l:List D}{s:List UInt8},bytesOf l=some s->(∀j x,l[j]?=some x->Rd w A (vs j) x) ->
  ∃ns:List Int,ns.length=l.length/\(∀j n,ns[j]?=some n->vs j=.int .u8 n)/\s=ns.map fun n=>UInt8.ofNat n.toNat:=by
 intro l;induction l generalizing vs with
 | nil=>intro s h _;simp only[bytesOf,Option.some.injEq] at h;subst h;exact⟨[],rfl,by simp,rfl⟩
 | cons x r ih =>
  intro s h hr;unfold bytesOf at h;split at h
  ·rename_i h0;cases h0
  ·rename_i n r' h0
   injection h0 with h1 h2
   subst h1;subst h2;rw[Option.bind_eq_some_iff] at h;obtain⟨s',hs',h⟩:=h;injection h with h
   subst h;obtain⟨ns,n1,n2,n3⟩:=ih (vs:=fun j=>vs (j+1)) hs' (fun j y hj=>hr (j+1) y (by simpa using hj));refine⟨n::ns,by simp[n1],fun j m hj=>?_,by rw[n3];rfl⟩;cases j with
   | zero =>
    simp at hj;subst hj;have:=hr 0 _ rfl;generalize vs 0=u at this|-
    cases this;rfl
   | succ j=>exact n2 j m (by simpa using hj)
  ·cases h
theorem foldl_push(ns:List Int):∀(s:ByteArray),ns.foldl (fun r n=>r.push (UInt8.ofNat n.toNat)) s=⟨s.data++(ns.map fun n=>UInt8.ofNat n.toNat).toArray⟩:=by
 induction ns with
 | nil=>intro s;simp
 | cons n ns ih =>
  intro s;rw[List.foldl_cons,ih];have:(s.push (UInt8.ofNat n.toNat)).data=s.data.push (UInt8.ofNat n.toNat):=rfl;rw[this];congr 1;apply Array.ext';simp
theorem Di:∀{L:List D}{l:List UInt8},bytesOf L=some l->∀x∈L,x.cells=[x]
 | [],_,_,x,hx=>by cases hx
 | y::r,l,hl,x,hx=>by
  unfold bytesOf at hl;split at hl
  ·rename_i h0;cases h0
  ·rename_i n r' h0
   injection h0 with h1 h2
   subst h1;subst h2;rw[Option.bind_eq_some_iff] at hl;obtain⟨s',hs',_⟩:=hl;rcases List.mem_cons.1 hx with rfl | hx
   ·rfl
   ·exact Di hs' x hx
  ·cases hl
theorem LW{sz j:Nat}{x:D}:∀{L:List D}{l:List UInt8},bytesOf L=some l->cellAt L sz j=some x->∃n,x=.int .u8 n:=by
 intro L l hl hx
 have go:∀{L:List D}{l:List UInt8},bytesOf L=some l->∀d∈L,∃n,d=.int .u8 n:=by
  intro L;induction L with
  | nil=>intro _ _ d hd;cases hd
  | cons y r ih =>
   intro l hl d hd;unfold bytesOf at hl;split at hl
   ·rename_i h0;cases h0
   ·rename_i n r' h0
    injection h0 with h1 h2
    subst h1;subst h2;rw[Option.bind_eq_some_iff] at hl;obtain⟨s',hs',_⟩:=hl;rcases List.mem_cons.1 hd with rfl | hd
    ·exact⟨n,rfl⟩
    ·exact ih hs' d hd
   ·cases hl
 unfold cellAt at hx;rw[Option.bind_eq_some_iff] at hx;obtain⟨d,h1,h2⟩:=hx;obtain⟨n,rfl⟩:=go hl d (List.mem_of_getElem? h1);have:=List.mem_of_getElem? h2;simp only[D.cells,List.mem_singleton] at this;exact⟨n,this⟩
theorem Mu(hob:∀j,(ct j).isObj=true->ob j=ct j)(hok:∀j,∃F,aK w A (aj w ct vl) (vl j) F (ct j)){v:Value}{x:D}(h:Pl w A (aj w ct vl) v x){side:Prop}{res:D}(hc:pf ob x=some (side,res))
  {s t e:TypeId} (hs:P.underlying s=some (.slice e)) (he:P.underlying e=some (.int .u8)) (ht:P.underlying t=some .string) :
  ∃l:List UInt8,res=.str l/\l.length<=maxLen/\(convert s t v).run P w=.ok (.string ⟨l.toArray⟩) w:=by
 have nilc:∀l:List UInt8,v=.slice none 0 0->l=[]->(convert s t v).run P w=.ok (.string ⟨l.toArray⟩) w:=by
  rintro l rfl rfl;rw[run_convert_bytes_string w s t e none 0 0 hs he ht];simp[Conv.bytesToString];rfl
 have key:∀{d:D}{l:List UInt8},d.kQ=some l->Rd w (fun _=>True) v d->l.length<=maxLen/\(convert s t v).run P w=.ok (.string ⟨l.toArray⟩) w:=by
  intro d l hl hr;cases hr<;>simp only[D.kQ,reduceCtorEq] at hl
  ·simp only[bytesOf,Option.some.injEq] at hl;subst hl
   exact⟨Nat.zero_le _,nilc _ rfl rfl⟩
  ·simp only[bytesOf,Option.some.injEq] at hl;subst hl
   refine⟨Nat.zero_le _,?_⟩;rw[run_convert_bytes_string w s t e _ _ _ hs he ht,run_bytesToString w _ 0 _ [] (by simpa using run_loadCells_list (P:=P) w _ [] (fun j v hj=>by simp at hj))];rfl
  ·rename_i z L b off cap sz hA hc hm hz hzz hsz vs hcells hr'
   have h1:∀x∈L,x.cells=[x]:=Di hl
   have hcell:∀j,cellAt L 1 j=L[j]?:=fun j=>by
    unfold cellAt;rw[Nat.div_one,Nat.mod_one];cases hq:L[j]? with
    | none=>rfl
    | some d=>simp[h1 d (List.mem_of_getElem? hq)]
   by_cases hL0:L=[]
   ·subst hL0
    simp only[bytesOf,Option.some.injEq] at hl;subst hl;refine⟨Nat.zero_le _,?_⟩;rw[run_convert_bytes_string w s t e _ _ _ hs he ht,List.length_nil,run_bytesToString w _ 0 _ [] (by simpa using run_loadCells_list (P:=P) w _ [] (fun j v hj=>by simp at hj))];rfl
   have hs1:sz=1:=by
    obtain⟨x,hx⟩:=List.exists_mem_of_ne_nil L hL0;have:=hsz x hx;rw[h1 x hx] at this;exact this.symm
   subst hs1;obtain⟨ns,n1,n2,n3⟩:=LY hl (fun j x hx=>hr' j x (by rw[hcell];exact hx));have hll:l.length=L.length:=by rw[n3,List.length_map,n1]
   refine⟨by omega,?_⟩;rw[run_convert_bytes_string w s t e _ _ _ hs he ht,run_bytesToString w _ L.length _ ns,foldl_push,<-n3]
   ·simp
   ·have:=run_loadCells_list (P:=P) w ⟨b,off,none⟩ (ns.map (Value.int .u8)) (fun j v hj=>by
     rw[List.getElem?_map,Option.map_eq_some_iff] at hj;obtain⟨n,hn,rfl⟩:=hj;have hj':=(List.getElem?_eq_some_iff.1 hn).1;rw[Addr.add_lit,<-n2 j n hn]
     exact hcells j L[j] (by rw[hcell];exact List.getElem?_eq_getElem (by omega)))
    rw[List.length_map,n1] at this;exact this
  ·injection hl with hl
   subst hl;exact⟨Nat.zero_le _,nilc _ rfl rfl⟩
 unfold pf at hc;split at hc
 ·rename_i k p
  have hr:=dW h;rw[qZ hob hr,Option.bind_some,Option.bind_eq_some_iff] at hc;obtain⟨l,hl,hc⟩:=hc;simp only[one,Option.some.injEq,Prod.mk.injEq] at hc;obtain⟨_,rfl⟩:=hc;obtain⟨F,hF⟩:=hok k;rcases lF hF hr with⟨z,l',hck,rfl,hvk⟩ | ⟨F',hown,_,_,_⟩
  ·rw[hck] at hl hF
   have hl:bytesOf l'=some l:=hl;obtain⟨b,sz,cs,e,h1,h2,h3,h4,h5,h6,h7,h8,h9⟩:=hF;refine⟨l,rfl,key (d:=.slice z l') hl ?_⟩;rw[hvk,h1];refine .slice trivial (Nat.le_refl _) h4 h5 h6 h7 (fun j=>cs.getD j undef) (fun j x hj=>?_) (fun j x hj=>?_)
   ·rw[Nat.zero_add]
    exact ee h2 (by have:=kR h5 hj;omega)
   ·have hx:=(h8 j x hj).1
    obtain⟨n,rfl⟩:=LW hl hj;exact(ey hx).1▸.int (ey hx).2
  ·exact⟨l,rfl,key hl (hown.rd (fun _ _=>trivial) fun _ _=>trivial)⟩
 ·rename_i hno
  rw[Option.bind_eq_some_iff] at hc;obtain⟨l,hl,hc⟩:=hc;simp only[one,Option.some.injEq,Prod.mk.injEq] at hc;obtain⟨_,rfl⟩:=hc;have hrd:=b6 h (fun k p hh=>hno k p hh) (by rintro k p rfl;cases hl) (by rintro f c rfl;cases hl) (by rintro l rfl;cases hl) (by rintro l rfl;cases hl) (by rintro k p n rfl;cases hl);exact⟨l,rfl,key hl (hrd.mono (fun _ _=>trivial) fun _ _=>rfl)⟩
end
end Go.D3
namespace Go.D3
open Go
section
variable{P:Program}{o:Oper}{w:World}{A:Nat->Prop}{ct:Nat->D}{vl:Nat->Value}{a:Act}{ds:List (Option Nat)}{tr:List Nat}{rd:X->D}{ob:Nat->D}
theorem GB{v:Value}{y:D}{F:Nat->Prop}(h:an w A v y F):(∀z l,y≠.row z l)/\∀z,y≠.aB z:=by
 cases h<;>exact⟨by simp,by simp⟩
theorem Ti{v:Value}{z:D}{l:List D}(h:Pl w A (aj w ct vl) v (.row z l)):False:=by
 cases h with
 | rd h=>cases h
 | ref h=>exact h.elim
theorem GK{k:Kp}{side:Prop}{res:D}(hp:bJ k rd ob=some (side,res))(hk:aY P ds tr o k=true)
  (hx:∀y,y∈k.xs->∀x,aJ ds tr x y=true->ch w A (aj w ct vl) (a.eval x) (rd y))
  (hob:∀j,(ct j).isObj=true->ob j=ct j) (hok:∀j,∃F,aK w A (aj w ct vl) (vl j) F (ct j)) (hs:side):∃v,Yd P o a w v/\Pl w A (aj w ct vl) v res:=by
 cases k<;>try(simp[bJ] at hp;done)
 case mv y =>
  simp only[aY] at hk;split at hk<;>try(cases hk;done)
  rename_i x' hop;have hp:g1 (rd y) (one (rd y).core)=some (side,res):=hp;obtain⟨s,h1,rfl⟩:=fa hp;simp only[one,Option.some.injEq,Prod.mk.injEq] at h1;obtain⟨_,rfl⟩:=h1;exact⟨_,vM (uB hop),(hx y (by simp[Kp.xs]) x' hk).1 hs.1⟩
 case pick c x y =>
  simp only[aY] at hk;split at hk<;>try(cases hk;done)
  rename_i c' a' b' hop;have ho:=SQ hop;simp only[Bool.and_eq_true] at hk;have hc:=hx c (by simp[Kp.xs]) c' hk.1.1;have hx':=hx x (by simp[Kp.xs]) a' hk.1.2;have hy':=hx y (by simp[Kp.xs]) b' hk.2;simp only[bJ] at hp;generalize hcc:(rd c).core=cc at hp;generalize hxx:(rd x).core=xx at hp;generalize hyy:(rd y).core=yy at hp;unfold uL at hp;split at hp
  ·rename_i cb p q
   simp only[Option.some.injEq,Prod.mk.injEq] at hp;obtain⟨rfl,rfl⟩:=hp;obtain⟨h1,h2,h3⟩:=hs;have hc:=hc.1 h1;rw[hcc] at hc;refine⟨_,XK (cb:=cb) (p:=p) (q:=q) ho (pl_bool hc) (fun hb=>?_) (fun hb=>?_),.rd .bool⟩
   ·have:=hx'.1 (h2 hb);rw[hxx] at this;exact pl_bool this
   ·have:=hy'.1 (h3 hb);rw[hyy] at this;exact pl_bool this
  ·cases hp
 case bin op x y =>
  simp only[aY] at hk;split at hk<;>try(cases hk;done)
  rename_i op' t x' y' hop;obtain⟨u,ho⟩:=rq hop;simp only[Bool.and_eq_true,decide_eq_true_eq] at hk;obtain⟨⟨rfl,hk1⟩,hk2⟩:=hk;obtain⟨s,h1,rfl⟩:=l9 hp;obtain⟨⟨g1,g2⟩,hs⟩:=hs;have hx':=(hx x (by simp[Kp.xs]) x' hk1).1 g1;have hy':=(hx y (by simp[Kp.xs]) y' hk2).1 g2;generalize(rd x).core=xx at h1 hx';generalize(rd y).core=yy at h1 hy';unfold qx at h1;split at h1
  ·split at h1
   ·rename_i hkk
    subst hkk;obtain⟨e1,e2⟩:=ey hx';obtain⟨e3,e4⟩:=ey hy';obtain⟨v,hv,hrun⟩:=Nu (w:=w) (P:=P) (o:=o) (a:=a) e2 h1 hs;exact⟨v,hrun ho e1 e3,.rd (hv.mono (fun _ h=>h.elim) fun _ h=>h.elim)⟩
   ·cases h1
  ·obtain⟨v,hv,hrun⟩:=WA (w:=w) (P:=P) (o:=o) (a:=a) h1 hs
   exact⟨v,hrun ho (gG hx').1 (gG hy').1,.rd (hv.mono (fun _ h=>h.elim) fun _ h=>h.elim)⟩
  ·cases h1
 case shr x y =>
  simp only[aY] at hk;split at hk<;>try(cases hk;done)
  rename_i op' t x' y' hop;obtain⟨u,ho⟩:=rq hop;simp only[Bool.and_eq_true,decide_eq_true_eq] at hk;obtain⟨⟨rfl,hk1⟩,hk2⟩:=hk;obtain⟨s,h1,rfl⟩:=l9 hp;obtain⟨⟨g1,g2⟩,hs⟩:=hs;have hx':=(hx x (by simp[Kp.xs]) x' hk1).1 g1;have hy':=(hx y (by simp[Kp.xs]) y' hk2).1 g2;generalize(rd x).core=xx at h1 hx';generalize(rd y).core=yy at h1 hy';unfold vj at h1;split at h1
  ·injection h1 with h1
   injection h1 with h1 h1'
   subst h1';rw[<-h1] at hs;obtain⟨e1,e2⟩:=ey hx';obtain⟨e3,e4⟩:=ey hy';exact⟨_,XL ho e1 e3 hs.1 hs.2,.rd (.int (V4 e2 _))⟩
  ·cases h1
 case mm mx x y =>
  simp only[aY] at hk;split at hk<;>try(cases hk;done)
  rename_i x' y' ts hop;have ho:=mG hop;simp only[Bool.and_eq_true] at hk;obtain⟨hk1,hk2⟩:=hk;obtain⟨s,h1,rfl⟩:=l9 hp;obtain⟨⟨g1,g2⟩,hs⟩:=hs;have hx':=(hx x (by simp[Kp.xs]) x' hk1).1 g1;have hy':=(hx y (by simp[Kp.xs]) y' hk2).1 g2;generalize(rd x).core=xx at h1 hx';generalize(rd y).core=yy at h1 hy';unfold uf at h1;split at h1
  ·split at h1
   ·rename_i hkk
    injection h1 with h1
    injection h1 with h1 h1'
    subst h1';subst hkk;obtain⟨e1,e2⟩:=ey hx';obtain⟨e3,e4⟩:=ey hy';exact⟨_,XI ho e1 e3,.rd (.int (Pn e2 e4))⟩
   ·cases h1
  ·cases h1
 case oY op x y =>
  simp only[aY] at hk;split at hk<;>try(cases hk;done)
  rename_i op' t x' y' hop;obtain⟨u,ho⟩:=rq hop;simp only[Bool.and_eq_true,decide_eq_true_eq] at hk;obtain⟨⟨⟨rfl,hk1⟩,hk2⟩,hk3⟩:=hk;obtain⟨s,h1,rfl⟩:=l9 hp;obtain⟨⟨g1,g2⟩,hs⟩:=hs;have hx':=(hx x (by simp[Kp.xs]) x' hk1).1 g1;have hy':=(hx y (by simp[Kp.xs]) y' hk2).1 g2;generalize(rd x).core=xx at h1 hx';generalize(rd y).core=yy at h1 hy';unfold sP at h1;split at h1
  ·obtain⟨v,hv,hrun⟩:=LQ (w:=w) (P:=P) (o:=o) (a:=a) h1
   split at hk3
   ·rename_i hu
    exact⟨v,hrun ho (pl_bool hx') (pl_bool hy') hu,.rd (hv.mono (fun _ h=>h.elim) fun _ h=>h.elim)⟩
   ·cases hk3
  ·cases h1
 case not x =>
  simp only[aY] at hk;split at hk<;>try(cases hk;done)
  rename_i x' hop;obtain⟨u,ho⟩:=SO hop;obtain⟨s,h1,rfl⟩:=fa hp;have hx':=(hx x (by simp[Kp.xs]) x' hk).1 hs.1;generalize(rd x).core=xx at h1 hx';unfold uo at h1;split at h1
  ·simp only[one,Option.some.injEq,Prod.mk.injEq] at h1
   obtain⟨_,rfl⟩:=h1;exact⟨_,XJ ho (pl_bool hx'),.rd .bool⟩
  ·cases h1
 case conv k x =>
  simp only[aY] at hk;split at hk<;>try(cases hk;done)
  rename_i t1 t2 x' hop;have ho:=yp hop;simp only[Bool.and_eq_true] at hk;obtain⟨hk1,hk2⟩:=hk;obtain⟨s,h1,rfl⟩:=fa hp;have hx':=(hx x (by simp[Kp.xs]) x' hk1).1 hs.1;generalize(rd x).core=xx at h1 hx';split at hk2
  ·rename_i hu1 hu2
   simp at hk2;subst hk2;unfold sX at h1;split at h1
   ·simp only[one,Option.some.injEq,Prod.mk.injEq] at h1
    obtain⟨_,rfl⟩:=h1;obtain⟨e1,e2⟩:=ey hx';obtain⟨h3,h4⟩:=Xx (P:=P) (w:=w) ho hu1 hu2 e1 e2;exact⟨_,h3,.rd (.int h4)⟩
   ·cases h1
  ·cases hk2
 case len x =>
  simp only[aY] at hk;split at hk<;>try(cases hk;done)
  rename_i x' t hop;have ho:=mG hop;simp only[Bool.and_eq_true] at hk;obtain⟨s,h1,rfl⟩:=fa hp;obtain⟨n,q,c,rfl,h2,h3⟩:=Oe hob hok ((hx x (by simp[Kp.xs]) x' hk.1).1 hs.1) h1;cases he:iY P t with
  | none=>rw[he] at hk;simp at hk
  | some e=>exact⟨_,XF ho (kG he) h2,.rd (.int (nQ h3))⟩
 case pE x =>
  simp only[aY] at hk;split at hk<;>try(cases hk;done)
  rename_i x' t hop;have ho:=mG hop;simp only[Bool.and_eq_true] at hk;obtain⟨hk1,hk2⟩:=hk;obtain⟨s,h1,rfl⟩:=fa hp;have hx':=(hx x (by simp[Kp.xs]) x' hk1).1 hs.1;generalize(rd x).core=xx at h1 hx';split at hk2
  ·rename_i hu
   unfold tQ at h1;split at h1
   ·simp only[one,Option.some.injEq,Prod.mk.injEq] at h1
    obtain⟨_,rfl⟩:=h1;obtain⟨h2,h3⟩:=gG hx';exact⟨_,XG ho hu h2,.rd (.int (nQ h3))⟩
   ·cases h1
  ·cases hk2
 case nZ ok kk z m k =>
  simp only[aY] at hk;split at hk<;>try(cases hk;done)
  rename_i t m' k' ok' hop;have ho:=SJ hop;simp only[Bool.and_eq_true,beq_iff_eq] at hk;obtain⟨⟨⟨hk1,hk2⟩,rfl⟩,hk3⟩:=hk;split at hk3<;>try(cases hk3;done)
  rename_i kt et hmt;simp only[Bool.and_eq_true] at hk3;obtain⟨hkt,hz⟩:=hk3;obtain⟨s,h1,rfl⟩:=l9 hp;have hm':=(hx m (by simp[Kp.xs]) m' hk1).1 hs.1.1;have hk':=(hx k (by simp[Kp.xs]) k' hk2).1 hs.1.2;unfold ud at h1;rw[Option.bind_eq_some_iff] at h1;obtain⟨e,he,h1⟩:=h1;rw[Option.bind_eq_some_iff] at h1;obtain⟨r,hr,h1⟩:=h1;simp only[Option.some.injEq,Prod.mk.injEq] at h1;obtain⟨hs1,rfl⟩:=h1;have hkey:(rd k).core.jA kk=true:=by rw[hs1];exact hs.2
  obtain⟨d,hu,hd⟩:=E9 hkt hkey
  have hsc:Sc (a.eval k') (rd k).core:=by
   have hsl:=E3 hkey;refine zH (w:=w) (A:=A) (b6 hk' ?_ ?_ ?_ ?_ ?_ ?_) hsl<;>intros<;>intro hh<;>rw[hh] at hsl<;>cases hsl
  obtain⟨i,zv,hi,hiz,hzz⟩:=XQ hz;obtain⟨u,h2,h3⟩:=On ok (ua hmt) hu hd hsc (FF hob hok hm' he) hr hi hiz hzz;refine⟨if ok then .tuple #[u,.bool r.isSome] else u,by simp only[Yd,execOp,ho,Sem.run_bind,h2,Result.andThen_ok,Sem.run_pure],?_⟩;cases ok
  ·exact .rd h3.rd
  ·refine .rd (.au rfl fun j x hj=>?_)
   match j,hj with
   | 0,hj=>simp at hj;subst hj;exact h3.rd
   | 1,hj=>simp at hj;subst hj;exact .bool
   | j+2,hj=>simp at hj
 case nX x =>
  simp only[aY] at hk;split at hk<;>try(cases hk;done)
  rename_i x' t hop;have ho:=mG hop;simp only[Bool.and_eq_true] at hk;obtain⟨s,h1,rfl⟩:=fa hp;unfold tP at h1;rw[Option.bind_eq_some_iff] at h1;obtain⟨e,he,h1⟩:=h1;simp only[Option.some.injEq,Prod.mk.injEq] at h1;obtain⟨_,rfl⟩:=h1;cases hmt:pG P t with
  | none=>rw[hmt] at hk;simp at hk
  | some q =>
   obtain⟨kt,et⟩:=q;rcases FF hob hok ((hx x (by simp[Kp.xs]) x' hk.1).1 hs.1) he with⟨h2,rfl⟩ | ⟨r,es,clock,h2,hb,hE⟩
   ·refine⟨.int .i64 0,?_,.rd (.int (nQ (n:=0) (Nat.zero_le _)))⟩
    simp[Yd,execOp,ho,h2,resolve,invoke,builtin,Builtin.len_,run_underlying (ua hmt),goInt]
   ·refine⟨.int .i64 e.1.length,?_,.rd (.int (nQ hE.1.2.2))⟩
    have:=hE.1.1;simp[Yd,execOp,ho,h2,resolve,invoke,builtin,Builtin.len_,run_underlying (ua hmt),MapKept.run_getObj_map hb,goInt,this]
 case nI x =>
  simp only[aY] at hk;split at hk<;>try(cases hk;done)
  rename_i s0 d0 x' hop;have ho:=yp hop;simp only[Bool.and_eq_true] at hk;obtain⟨hk1,hk2⟩:=hk;split at hk2<;>try(cases hk2;done)
  rename_i e hu1 hu2;split at hk2<;>try(cases hk2;done)
  rename_i hu3;obtain⟨s,h1,rfl⟩:=fa hp;obtain⟨l,rfl,hl,h2⟩:=Mu hob hok ((hx x (by simp[Kp.xs]) x' hk1).1 hs.1) h1 hu1 hu3 hu2;exact⟨_,by simp only[Yd,execOp,ho,Sem.run_bind,h2,Result.andThen_ok,Sem.run_pure],.rd (.str hl)⟩
 case pK neg x =>
  simp only[aY] at hk;split at hk<;>try(cases hk;done)
  rename_i op' t x' hop;obtain⟨u,ho⟩:=rq hop;simp only[Bool.and_eq_true,decide_eq_true_eq] at hk;obtain⟨⟨rfl,hk1⟩,hk2⟩:=hk;split at hk2<;>try(cases hk2;done)
  rename_i ms hu;obtain⟨s,h1,rfl⟩:=fa hp;have hx':=(hx x (by simp[Kp.xs]) x' hk1).1 hs.1;obtain⟨b,hb,hrun⟩:=P4 (P:=P) (w:=w) (t:=t) hx' h1 hu ho rfl;exact⟨.bool b,hrun,by rw[hb];exact .rd .bool⟩
 case az sz x i =>
  simp only[aY] at hk;split at hk<;>try(cases hk;done)
  rename_i t x' i' hop;have ho:=SH hop;simp only[Bool.and_eq_true,decide_eq_true_eq] at hk;obtain⟨⟨⟨hk1,hk2⟩,hk3⟩,hk4⟩:=hk;split at hk4
  ·rename_i e he
   obtain⟨inf,hi1,hi2⟩:=vn hk4;obtain⟨s,h1,rfl⟩:=l9 hp;obtain⟨⟨g1,g2⟩,hs⟩:=hs;have hx':=(hx x (by simp[Kp.xs]) x' hk1).1 g1;have hi':=(hx i (by simp[Kp.xs]) i' hk2).1 g2;generalize(rd x).core=xx at h1 hx';generalize(rd i).core=ii at h1 hi';unfold mf at h1;split at h1
   ·rename_i ki n
    obtain⟨hn,_⟩:=ey hi';split at h1
    ·rename_i k p
     have hr:=dW hx';rw[qZ hob hr,Option.bind_some] at h1;obtain⟨F,hF⟩:=hok k;rcases lF hF hr with⟨z,l,hc,_,_⟩ | ⟨F',hown,_,hreach,hnr⟩
     ·rw[hc] at h1;cases h1
     ·have h1':((ct k).bm p).ck.bind (fun m=>some ((0<=n/\n<(m:Int)/\(((ct k).bm p).iO n.toNat).length=sz),D.aw k (p++[(n.toNat,0)])))=some (s,res):=by
       revert h1;cases hc:ct k<;>first | exact id | exact absurd hc (hnr _ _)
      rw[Option.bind_eq_some_iff] at h1';obtain⟨m,hm,h1'⟩:=h1';simp only[Option.some.injEq,Prod.mk.injEq] at h1';obtain⟨h2,rfl⟩:=h1';rw[<-h2] at hs;obtain⟨h3,h4,h5⟩:=hs;generalize hy:(ct k).bm p=y at hown hm h5 hreach;cases y<;>simp[D.ck] at hm<;>first | exact absurd rfl ((GB hown).1 _ _) | exact absurd rfl ((GB hown).2 _) | skip
      rename_i z L;subst hm;have hlt:n.toNat<L.length:=by omega
      have hL:L.getD n.toNat z=L[n.toNat]:=by rw[List.getD_eq_getElem?_getD,List.getElem?_eq_getElem hlt];rfl
      have hun:=hown.un.1
      have hvc:∃b off c,a.eval x'=.slice (some ⟨b,off,none⟩) L.length c/\z.cells.length=sz:=by
       have hsz:=hown.mX z L (.inl rfl) L[n.toNat] (List.getElem_mem hlt);obtain⟨q,cap,e1,_,_,e4⟩:=uG hown;obtain⟨b,off,rfl⟩:=e4 (by rintro rfl;simp at hlt);refine⟨b,off,cap,e1,?_⟩;rw[<-hsz,<-h5];simp only[D.iO,hL]
      obtain⟨b,off,c,e1,e2⟩:=hvc;have hkid:(D.slice z L).has [(n.toNat,0)]:=⟨⟨hlt,by omega⟩,trivial⟩;obtain⟨r1,_,r3⟩:=hreach _ hkid;refine⟨_,K7 ho (kG he) hi1 hi2 e1 hn h3 (by exact_mod_cast h4),.ref ⟨r1,_,(r3 (by simp)).trans ?_,rfl⟩⟩;rw[e1];simp only[aH,dU,D.un,er,e2,Nat.add_zero]
    ·rename_i hns
     rw[Option.bind_eq_some_iff] at h1;obtain⟨m,hm,h1⟩:=h1;simp only[Option.some.injEq,Prod.mk.injEq] at h1;obtain⟨h2,rfl⟩:=h1;rw[<-h2] at hs;obtain⟨h3,h4,h5⟩:=hs;cases xx<;>simp[D.ck] at hm
     ·rename_i z L
      subst hm;have hlt:n.toNat<L.length:=by omega
      have hL:L.getD n.toNat z=L[n.toNat]:=by rw[List.getD_eq_getElem?_getD,List.getElem?_eq_getElem hlt];rfl
      have hrd:=oq hx';obtain⟨_,_,_,_,_,hh⟩:=y5 hrd;obtain⟨_,_,_,_,_,hsz,_⟩:=hh (by rintro rfl;simp at hlt);obtain⟨b,off,c,e1,e2,e3⟩:=TA hrd hlt
      have e4:z.cells.length=sz:=by
       rw[<-hsz _ (List.getElem_mem hlt),<-h5];simp only[D.iO,hL]
      rw[e4] at e2;exact⟨_,K7 ho (kG he) hi1 hi2 e1 hn h3 (by exact_mod_cast h4),.rd e2⟩
     ·exact(Ti hx').elim
     ·subst hm;omega
   ·cases h1
  ·cases hk4
 case ld x =>
  simp only[aY] at hk;split at hk<;>try(cases hk;done)
  rename_i t x' hop;have ho:=Gk hop;simp only[Bool.and_eq_true] at hk;obtain⟨s,h1,rfl⟩:=fa hp;obtain⟨b,off,u,h2,h3,h4⟩:=Fg hob hok ((hx x (by simp[Kp.xs]) x' hk.1).1 hs.1) h1;exact⟨u,XD ho hk.2 h2 h3,h4⟩
 case dj n x =>
  simp only[aY] at hk;split at hk<;>try(cases hk;done)
  rename_i t x' hop;have ho:=Gk hop;simp only[Bool.and_eq_true] at hk;obtain⟨s,h1,rfl⟩:=fa hp;obtain⟨b,off,cs,h2,h3,h4,h5⟩:=Fh hob hok ((hx x (by simp[Kp.xs]) x' hk.1.1).1 hs.1) h1 hs.2;exact⟨_,XE ho hk.1.2 hk.2 h2 h3 h4,h5⟩
 case fA off x =>
  simp only[aY] at hk;split at hk<;>try(cases hk;done)
  rename_i t x' f hop;have ho:=Gi hop;simp only[Bool.and_eq_true] at hk;obtain⟨hk1,hk2⟩:=hk;split at hk2
  ·rename_i p0 ft hf
   simp only[Bool.and_eq_true,decide_eq_true_eq,Bool.not_eq_true'] at hk2;obtain⟨⟨rfl,h2⟩,h3⟩:=hk2;obtain⟨s,h1,rfl⟩:=fa hp;have hx':=(hx x (by simp[Kp.xs]) x' hk1).1 hs.1;generalize(rd x).core=xx at h1 hx';unfold lW at h1;split at h1
   ·rename_i l
    simp only[one,Option.some.injEq,Prod.mk.injEq] at h1;obtain⟨_,rfl⟩:=h1;have hrd:Rd w A (a.eval x') (.ptr l):=b6 hx' (by simp) (by simp) (by simp) (by simp) (by simp);generalize hv:a.eval x'=v at hrd;cases hrd with
    | @ptr b o' _ hA vs hcells hr =>
     refine⟨_,vL ho hf h2 h3 hv,.rd (.ptr hA (fun j=>vs (p0+j)) (fun j x hj=>?_) (fun j x hj=>?_))⟩
     ·rw[List.getElem?_drop] at hj
      have:=hcells _ _ hj
      rwa [<-Nat.add_assoc] at this
     ·rw[List.getElem?_drop] at hj
      exact hr _ _ hj
   ·rename_i k p
    have hr:=fR hx';rw[xS hob hr,Option.bind_some] at h1;simp only[Option.some.injEq,Prod.mk.injEq] at h1;obtain⟨e1,rfl⟩:=h1;obtain⟨b,o',e2,e3,e4⟩:=qv hok hr;exact⟨_,vL ho hf h2 h3 e2,.ref ⟨by rw[e1];exact hs.2,_,qu p e4,rfl⟩⟩
   ·cases h1
  ·cases hk2
 case pj off x =>
  simp only[aY] at hk;split at hk<;>try(cases hk;done)
  rename_i t x' f hop;have ho:=Gj hop;simp only[Bool.and_eq_true] at hk;obtain⟨hk1,hk2⟩:=hk;split at hk2
  ·rename_i p0 ft hf
   simp only[Bool.and_eq_true,decide_eq_true_eq] at hk2;obtain⟨rfl,h2⟩:=hk2;obtain⟨s,h1,rfl⟩:=fa hp;have hx':=(hx x (by simp[Kp.xs]) x' hk1).1 hs.1;generalize(rd x).core=xx at h1 hx';unfold tn at h1;split at h1
   ·rename_i l
    simp only[Option.some.injEq,Prod.mk.injEq] at h1;obtain⟨e1,rfl⟩:=h1;have hs2:=hs.2;rw[<-e1] at hs2;obtain⟨cs,e2,e3,e4⟩:=lA hx';refine⟨_,XA ho hf h2 e2 (by omega),e4 p0 _ ?_⟩;rw[List.getD_eq_getElem?_getD,List.getElem?_eq_getElem hs2];rfl
   ·cases h1
  ·cases hk2
 case pk off n x =>
  simp only[aY] at hk;split at hk<;>try(cases hk;done)
  rename_i t x' f hop;have ho:=Gj hop;simp only[Bool.and_eq_true] at hk;obtain⟨hk1,hk2⟩:=hk;split at hk2
  ·rename_i p0 ft hf
   simp only[Bool.and_eq_true,decide_eq_true_eq] at hk2;obtain⟨⟨rfl,h2⟩,h3⟩:=hk2;obtain⟨s,h1,rfl⟩:=fa hp;have hx':=(hx x (by simp[Kp.xs]) x' hk1).1 hs.1;generalize(rd x).core=xx at h1 hx';unfold tp at h1;split at h1
   ·rename_i l
    simp only[Option.some.injEq,Prod.mk.injEq] at h1;obtain⟨e1,rfl⟩:=h1;have hs2:=hs.2;rw[<-e1] at hs2;obtain⟨cs,e2,e3,e4⟩:=lA hx';refine⟨_,XB ho hf h2 h3 e2,.agg (by simp;omega) fun j x hj=>?_⟩;rw[List.getElem?_take] at hj;split at hj
    ·rename_i hjn
     rw[List.getElem?_drop] at hj;have:=e4 _ _ hj
     have e5:(cs.extract p0 (p0+n)).getD j undef=cs.getD (p0+j) undef:=by
      have h6:p0+j<cs.size:=by have:=(List.getElem?_eq_some_iff.1 hj).1;omega
      have h7:j<(cs.extract p0 (p0+n)).size:=by simp;omega
      rw[Array.getD_eq_getD_getElem?,Array.getD_eq_getD_getElem?,Array.getElem?_eq_getElem h7,Array.getElem?_eq_getElem h6,Array.getElem_extract]
     rw[e5];exact this
    ·cases hj
   ·cases h1
  ·cases hk2
 case gS zs parts =>
  simp only[aY] at hk;split at hk<;>try(cases hk;done)
  rename_i t ps hop;have ho:=SE hop;simp only[Bool.and_eq_true] at hk;obtain⟨⟨hk1,hk2⟩,hk3⟩:=hk;simp only[bJ,Option.bind_eq_some_iff] at hp;obtain⟨⟨g,l⟩,hf,hp⟩:=hp;simp only[Option.some.injEq,Prod.mk.injEq] at hp;obtain⟨rfl,rfl⟩:=hp;refine Xw ho hk1 hk2 ?_ hx hf hs;unfold El at hk3;split at hk3
  ·rename_i fs hu
   exact⟨fs,hu,fun f hf=>by simpa using List.all_eq_true.1 hk3 f hf⟩
  ·cases hk3
 case pv x i =>
  simp only[aY] at hk;split at hk<;>try(cases hk;done)
  rename_i t x' i' hop;have ho:=SI hop;simp only[Bool.and_eq_true] at hk;obtain⟨⟨hk1,hk2⟩,hk3⟩:=hk;split at hk3
  ·rename_i hu
   obtain⟨s,h1,rfl⟩:=l9 hp;obtain⟨⟨g1,g2⟩,hs⟩:=hs;have hx':=(hx x (by simp[Kp.xs]) x' hk1).1 g1;have hi':=(hx i (by simp[Kp.xs]) i' hk2).1 g2;generalize(rd x).core=xx at h1 hx';generalize(rd i).core=ii at h1 hi';unfold tA at h1;split at h1
   ·simp only[Option.some.injEq,Prod.mk.injEq] at h1
    obtain⟨e1,rfl⟩:=h1;rw[<-e1] at hs;obtain⟨h3,h4⟩:=XC (P:=P) (w:=w) ho hu (gG hx').1 (ey hi').1 hs.1 hs.2;exact⟨_,h3,.rd (.int h4)⟩
   ·cases h1
  ·cases hk3
 case ext i x =>
  simp only[aY] at hk;split at hk<;>try(cases hk;done)
  rename_i x' i' hop;have ho:=SG hop;simp only[Bool.and_eq_true,beq_iff_eq] at hk;obtain⟨hk1,rfl⟩:=hk;obtain⟨s,h1,rfl⟩:=fa hp;have hx':=(hx x (by simp[Kp.xs]) x' hk1).1 hs.1;generalize(rd x).core=xx at h1 hx';unfold td at h1;split at h1
  ·rename_i l
   simp only[Option.some.injEq,Prod.mk.injEq] at h1;obtain⟨e1,rfl⟩:=h1;have hs2:=hs.2;rw[<-e1] at hs2;obtain⟨cs,e2,e3,e4⟩:=Tl hx';refine⟨_,Xz ho e2 (by omega),e4 i _ ?_⟩;rw[List.getD_eq_getElem?_getD,List.getElem?_eq_getElem hs2];rfl
  ·cases h1
 case bH x =>
  simp only[aY] at hk;split at hk<;>try(cases hk;done)
  rename_i x' hop;have ho:=Gl hop;obtain⟨s,h1,rfl⟩:=fa hp;have hx':=(hx x (by simp[Kp.xs]) x' hk).1 hs.1;generalize(rd x).core=xx at h1 hx';unfold mB at h1;split at h1
  all_goals try(cases h1;done)
  all_goals
   simp only[one,Option.some.injEq,Prod.mk.injEq] at h1;obtain⟨_,rfl⟩:=h1
  ·obtain⟨b,off,e1,_⟩:=pQ hx'
   exact⟨_,vN ho e1,by rw[<-e1];exact hx'⟩
  ·obtain⟨b,off,e1,_⟩:=qv hok (fR hx')
   exact⟨_,vN ho e1,by rw[<-e1];exact hx'⟩
  ·obtain⟨cs,e1,_⟩:=mJ hx'
   exact⟨_,K8 ho e1,by rw[<-e1];exact hx'⟩
 case eqs neg ks x y =>
  simp only[aY] at hk;split at hk<;>try(cases hk;done)
  rename_i op' t x' y' hop;obtain⟨u,ho⟩:=rq hop;simp only[Bool.and_eq_true,decide_eq_true_eq,Bool.not_eq_true'] at hk;obtain⟨⟨⟨⟨rfl,hk1⟩,hk2⟩,hk3⟩,hk4⟩:=hk;split at hk3
  ·rename_i fs hu
   simp only[Bool.and_eq_true,Bool.not_eq_true'] at hk3;obtain⟨s,h1,rfl⟩:=l9 hp;obtain⟨⟨g1,g2⟩,hs⟩:=hs;have hx':=(hx x (by simp[Kp.xs]) x' hk1).1 g1;have hy':=(hx y (by simp[Kp.xs]) y' hk2).1 g2;generalize(rd x).core=xx at h1 hx';generalize(rd y).core=yy at h1 hy';unfold ta at h1;split at h1
   ·rw[Option.bind_eq_some_iff] at h1
    obtain⟨b,hb,h1⟩:=h1;simp only[Option.some.injEq,Prod.mk.injEq] at h1;obtain⟨_,rfl⟩:=h1;exact⟨_,Xy ho hu hk3.1 hk3.2 hk4 hx' hy' hb,.rd .bool⟩
   ·cases h1
  ·cases hk3
 case oI x lo hi =>
  simp only[aY] at hk;split at hk<;>try(cases hk;done)
  rename_i t x' lo' hi' hop;have ho:=Gm hop;simp only[Bool.and_eq_true] at hk;obtain⟨⟨⟨hk1,hk2⟩,hk3⟩,hk4⟩:=hk;simp only[bJ,zX,Option.bind_eq_some_iff] at hp;obtain⟨s,hs1,⟨g1,l⟩,hlo,⟨g2,h⟩,hhi,hp⟩:=hp;simp only[Option.some.injEq,Prod.mk.injEq] at hp;obtain⟨rfl,rfl⟩:=hp;obtain⟨⟨g0,hg1,hg2⟩,h0,h1,h2⟩:=hs;have hx':=(hx x (by simp[Kp.xs]) x' hk1).1 g0;cases hc:(rd x).core<;>rw[hc] at hs1 hx'<;>simp[D.ng] at hs1;subst hs1;split at hk4
  ·rename_i hu
   obtain⟨e1,e2⟩:=gG hx';refine⟨_,XN ho hu e1 h0 h1 h2 (qz hk2 (fun z hz=>hx z (by simp[Kp.xs,hz])) hlo hg1) (qz hk3 (fun z hz=>hx z (by simp[Kp.xs,hz])) hhi hg2),.rd (.str (by simp;omega))⟩
  ·cases hk4
 case sl x lo hi =>
  simp only[aY] at hk;split at hk<;>try(cases hk;done)
  rename_i t x' lo' hi' hop;have ho:=Gm hop;simp only[Bool.and_eq_true] at hk;obtain⟨⟨⟨hk1,hk2⟩,hk3⟩,hk4⟩:=hk;simp only[bJ] at hp;unfold vo at hp;cases hso:nh (rd x).core lo with
  | some kp =>
   obtain⟨k,p⟩:=kp;obtain⟨hcx,rfl⟩:=WB hso;rw[hso] at hp;simp only[Option.elim_some] at hp;simp only[Option.bind_eq_some_iff] at hp;obtain⟨c,hlk,n,hn,⟨g2,h⟩,hhi,hp⟩:=hp;simp only[Option.some.injEq,Prod.mk.injEq] at hp;obtain⟨rfl,rfl⟩:=hp;obtain⟨⟨g0,hg2⟩,hez,h0,h2⟩:=hs;have hx':=(hx x (by simp[Kp.xs]) x' hk1).1 g0;rw[hcx] at hx';have hr:=dW hx';rw[qZ hob hr] at hlk;injection hlk with hlk
   subst hlk;obtain⟨F,hokk⟩:=hok k;have b2:=qz (a:=a) (w:=w) (A:=A) (ct:=ct) (vl:=vl) hk3 (fun z hz=>hx z (by simp[Kp.xs,hz])) hhi hg2;have hlo':lo'=none:=by cases lo' with | none=>rfl | some _=>simp[nU] at hk2
   subst hlo';split at hk4
   ·rename_i e hu
    obtain⟨inf,hi1,hi2⟩:=vn hk4;rcases lF hokk hr with⟨z,l,e1,e2,_⟩ | ⟨F',hown,_,_,_⟩
    ·rw[e1,e2] at hez;simp[D.bm,D.at,D.un,D.gz] at hez
    ·have key:∃q m c,a.eval x'=.slice q m c/\m<=c/\(q=none->c=0)/\n=m:=by
      generalize(ct k).bm p=y at hown hn;generalize a.eval x'=v at hown;cases hown<;>simp[D.ck] at hn
      ·exact⟨_,_,_,rfl,Nat.le_refl _,fun _=>rfl,hn.symm⟩
      ·rename_i hc _ _ _ _ _ _ _ _
       exact⟨_,_,_,rfl,by omega,fun h=>(by cases h),hn.symm⟩
     obtain⟨q,m,c,e1,e2,e3,rfl⟩:=key;have hrv:=hr.2.1;rw[e1] at hrv;exact⟨_,XM (P:=P) (a:=a) ho hu hi1 e1 e2 e3 h0 h2 b2,.ref ⟨q,n,c,⟨hr.1,hrv⟩,by omega,rfl⟩⟩
   ·cases hk4
  | none =>
  rw[hso] at hp;simp only[Option.elim_none,Option.bind_eq_some_iff] at hp;obtain⟨n,hn,⟨g1,l⟩,hlo,⟨g2,h⟩,hhi,z,hz,hp⟩:=hp;simp only[Option.some.injEq,Prod.mk.injEq] at hp;obtain⟨rfl,rfl⟩:=hp;obtain⟨⟨g0,hg1,hg2⟩,hez,h0,h1,h2⟩:=hs;have hx':=(hx x (by simp[Kp.xs]) x' hk1).1 g0;have b1:=qz (a:=a) (w:=w) (A:=A) (ct:=ct) (vl:=vl) hk2 (fun z hz=>hx z (by simp[Kp.xs,hz])) hlo hg1;have b2:=qz (a:=a) (w:=w) (A:=A) (ct:=ct) (vl:=vl) hk3 (fun z hz=>hx z (by simp[Kp.xs,hz])) hhi hg2;split at hk4
  ·rename_i e hu
   obtain⟨inf,hi1,hi2⟩:=vn hk4;cases hc:(rd x).core<;>rw[hc] at hn hx' hz hez<;>simp[D.cut] at hz<;>try(simp[D.ck] at hn;done)
   ·rename_i z0 L
    subst hz;simp only[D.ck,Option.some.injEq] at hn;subst hn;obtain⟨v,e1,e2⟩:=K9 (P:=P) (a:=a) ho hu hi1 hi2 hez (oq hx') h0 h1 h2 b1 b2;exact⟨v,e1,.rd e2⟩
   ·rename_i z0
    subst hz;simp only[D.ck,Option.some.injEq] at hn;subst hn;have hrd:Rd w A (a.eval x') (.aB z0):=b6 hx' (by simp) (by simp) (by simp) (by simp) (by simp)
    have hrd':Rd w A (a.eval x') (.slice z0 []):=by
     generalize a.eval x'=v at hrd;cases hrd;exact .nil
    obtain⟨v,e1,e2⟩:=K9 (P:=P) (a:=a) ho hu hi1 hi2 hez hrd' h0 h1 h2 b1 b2;exact⟨v,e1,.rd (by simpa using e2)⟩
  ·cases hk4
 case pH f caps =>
  simp only[aY] at hk;split at hk<;>try(cases hk;done)
  rename_i f' first captured hop
  have ho:=SM hop;simp only[Bool.and_eq_true,beq_iff_eq] at hk;obtain⟨⟨rfl,hk1⟩,hk2⟩:=hk;simp only[bJ,Option.bind_eq_some_iff] at hp;obtain⟨l,hl,hp⟩:=hp;simp only[Option.some.injEq,Prod.mk.injEq] at hp;obtain⟨_,rfl⟩:=hp;exact XH ho hk1 hk2 hx hl
end
end Go.D3
namespace Go.D3
open Go
theorem Ma{L:List D}{sz j:Nat}{c:D}(h:jN L=true)(hj:cellAt L sz j=some c):c.cP=true:=by
 have key:∀{L:List D},jN L=true->∀x∈L,x.cP=true:=fun {L}=>by
  induction L with
  | nil=>intro _ x hx;cases hx
  | cons y L ih =>
   intro h x hx;rw[jN,Bool.and_eq_true] at h;rcases List.mem_cons.1 hx with rfl | hx
   ·exact h.1
   ·exact ih h.2 x hx
 unfold cellAt at hj;rw[Option.bind_eq_some_iff] at hj;obtain⟨d,hd,hc⟩:=hj;have hs:=key h d (List.mem_of_getElem? hd);have hm:=List.mem_of_getElem? hc;cases d<;>simp[D.cP] at hs<;>simp[D.cells] at hm<;>subst hm<;>rfl
theorem Tj{w w':World}{A A':Nat->Prop}{ct:Nat->D}{vl:Nat->Value}{v:Value}{c:D}{F:Nat->Prop}(h:Pl w A (aj w ct vl) v c)(hs:c.cP=true):an w' A' v c F:=by
 cases h with
 | rd h=>cases h<;>first | exact .int ‹_› | exact .bool | exact .str ‹_› | cases hs
 | ref h=>cases c<;>first | exact h.elim | cases hs
 | _=>cases hs
structure Ext(w w':World):Prop where
 size:w.heap.size<=w'.heap.size
 same:∀b,b<w.heap.size->w'.heap[b]?=w.heap[b]?
 os:w'.os=w.os
 tape:w'.tape=w.tape
 output:w'.output=w.output
theorem Ext.refl(w:World):Ext w w:=⟨Nat.le_refl _,fun _ _=>rfl,rfl,rfl,rfl⟩
theorem Ext.trans{w w' w'':World}(h:Ext w w')(h':Ext w' w''):Ext w w'' :=
 ⟨Nat.le_trans h.size h'.size,fun b hb=>(h'.same b (Nat.lt_of_lt_of_le hb h.size)).trans (h.same b hb),h'.os.trans h.os,h'.tape.trans h.tape,h'.output.trans h.output⟩
theorem lV(w:World)(o:Go.Obj):Ext w (w.alloc o):=⟨by simp,fun b hb=>heap_alloc_old w o b hb,rfl,rfl,rfl⟩
def jG(A:Nat->Prop)(w w':World)(F:Nat->Prop)(b:Nat):Prop:=A b\/(w.heap.size<=b/\b<w'.heap.size/\¬F b)
section
variable{cx:Ctx}{ct:Nat->D}{vl:Nat->Value}{fp:Nat->Nat->Prop}{G:Nat->Prop}{w:World}
theorem Hp.add(h:Hp cx ct vl fp G w){w':World}(he:Ext w w'){k:Nat}(hk:(ct k).isObj=false){v:Value}{c:D}{F:Nat->Prop}(hF:∀b,F b->w.heap.size<=b/\b<w'.heap.size)
  (hc:aK w' (jG (aq cx fp G w) w w' F) (aj w ct vl) v F c) (hemp:c.isObj=false->∀b,¬F b):Hp cx (ay ct k c) (ay vl k v) (ay fp k F) G w':=by
 have h1:=h.grow he.size he.same he.os he.tape he.output;have h2:=h1.release (G':=fun b=>G b\/F b) (fun b hb=>hb.imp id fun h=>hF b h)
 have hkeep:∀v d,aj w ct vl v d->aj w' ct vl v d:=by
  intro v d hr;refine hr.cz (bq (fun d=>?_) _);cases d<;>try trivial
  case sub k p=>exact fun hp=>⟨hp,(gq (h.ok k) hp.1 fun b hb=>he.same b (h.lt k b hb).1).1⟩
  case aw k p=>exact fun hp=>⟨hp,(gq (h.ok k) hp fun b hb=>he.same b (h.lt k b hb).1).2⟩
 refine h2.put hk (hc.mono (Q:=fun _=>True) (fun b hb=>?_) (fun _ _=>rfl) (fun _ _=>rfl) (fun _ h=>h) (bq (fun _=>trivial) _) fun v d _ hr=>hkeep v d hr) (fun b hb=>.inr hb) (fun b hb=>.inl hb) (fun b hb hg=>?_) hemp
 ·rcases hb with hb | ⟨hb1,hb2,hb3⟩
  ·exact⟨⟨Nat.lt_of_lt_of_le hb.1.1 he.size,hb.1.2⟩,fun hg=>hg.elim hb.2.1 fun hf=>by have:=(hF b hf).1;have:=hb.1.1;omega,hb.2.2⟩
  ·exact⟨⟨hb2,fun hlt=>by have:=h.size;omega⟩,fun hg=>hg.elim (fun hg=>by have:=(h.c7 b hg).1;omega) hb3,fun j hj=>by have:=(h.lt j b hj).1;omega⟩
 ·have:=(h.c7 b hg).1;have:=(hF b hb).1;omega
end
def Cw(P:Program)(o:Oper)(a:Act)(w:World)(A:Nat->Prop)(R:Value->D->Prop)(c:D):Prop :=
 ∃(v:Value)(w':World)(F:Nat->Prop),(execOp a.eval o).run P w=.ok (.value v) w'/\Ext w w'/\(∀b,F b->w.heap.size<=b/\b<w'.heap.size)/\aK w' (jG A w w' F) R v F c/\(c.isObj=false->∀b,¬F b)
section
variable{P:Program}{o:Oper}{w:World}{A:Nat->Prop}{ct:Nat->D}{vl:Nat->Value}{a:Act}{ds:List (Option Nat)}{tr:List Nat}{rd:X->D}
theorem yO:∀{l:List D},om l=true->∀x∈l,x.pc=true
 | [],_,x,hx=>by cases hx
 | y::r,h,x,hx=>by
  simp only[om,Bool.and_eq_true] at h;rcases List.mem_cons.1 hx with rfl | hx
  ·exact h.1
  ·exact yO h.2 x hx
theorem Dx{R:Value->D->Prop}{v:Value}{c:D}{F:Nat->Prop}(h:Pl w A R v c)(hc:c.pc=true):b7 w A R v F c:=by
 cases c<;>first | exact h | (simp[D.pc] at hc)
theorem yR{v:Value}{x y:D}(h:Pl w A (aj w ct vl) v x)(hy:x.fF=some y):Rd w A v y:=by
 cases x<;>simp only[D.fF,Option.some.injEq,reduceCtorEq] at hy
 case fn f caps =>
  cases caps with
  | nil =>
   simp only[Option.some.injEq] at hy;subst hy;cases h with
   | rd h=>exact h
   | ref h=>exact h.elim
   | fn hs hr=>exact .fn hs (fun j x hx=>by simp at hx)
  | cons _ _=>cases hy
 case aB z =>
  subst hy;have:=b6 h (by simp) (by simp) (by simp) (by simp) (by simp);cases this;exact .nil
 all_goals
  subst hy;exact b6 h (by simp) (by simp) (by simp) (by simp) (by simp)
theorem iT{f:D->Option D}:∀{l l':List D},gh f l=some l'->l'.length=l.length/\∀(j:Nat)(y:D),l'[j]?=some y->∃x:D,l[j]?=some x/\f x=some y
 | [],l',h=>by simp[gh] at h;subst h;simp
 | x::r,l',h=>by
  simp only[gh,Option.bind_eq_some_iff,Option.some.injEq] at h;obtain⟨y,hy,l'',hl,rfl⟩:=h;obtain⟨h1,h2⟩:=iT hl;refine⟨by simp[h1],fun j z hz=>?_⟩;cases j with
  | zero=>simp at hz;subst hz;exact⟨x,rfl,hy⟩
  | succ j=>simpa using h2 j z (by simpa using hz)
theorem zB{e:TypeId}{x:Operand}(ho:o.op=.box e x):(execOp a.eval o).run P w=.ok (.value (.pointer (some ⟨w.heap.size,0,none⟩))) (w.alloc (.cells (a.eval x).cells e)):=by
 simp[execOp,ho,Instr.box,newVar,newRow]
theorem FN{cs:Array Value}{e:TypeId}{l:List D}(hl:cs.size=l.length)(h0 : 0<l.length)(hc:∀j c,l[j]?=some c->b7 w A (aj w ct vl) (cs.getD j undef) (fun _=>False) c)
  (hlive:∀b,A b->b<w.heap.size)
  (hrun:(execOp a.eval o).run P w=.ok (.value (.pointer (some ⟨w.heap.size,0,none⟩))) (w.alloc (.cells cs e))):Cw P o a w A (aj w ct vl) (.box l):=by
 refine⟨_,_,(·=w.heap.size),hrun,lV w _,fun b hb=>by subst hb;simp,⟨h0,w.heap.size,cs,e,fun _ _=>False,rfl,heap_alloc_new w _,hl,fun j c hj=>?_,rfl,fun _ _ h=>h.elim,fun _ _ _ _ h=>h.elim⟩,fun h=>by cases h⟩;exact(hc j c hj).mono (Q:=fun _=>True) (fun b hb=>.inl hb) (fun b hb=>heap_alloc_old w _ b (hlive b hb)) (fun _ h=>h.elim) (fun _ h=>h) (bq (fun _=>trivial) _) fun v d _ hr=>hr
theorem ED{z:Array Value}{n j:Nat}(hj:j<n)(hz : 0<z.size):(madeCells z n).getD j undef=z.getD (j % z.size) undef:=by
 have:=Nat.mod_lt j hz;simp[madeCells,hj,this]
theorem xE:∀{ps:List (Nat×Operand)}{parts:List (Nat×X)},jy ds tr ps parts=true->ps.length=parts.length/\∀(j i:Nat) x k y,ps[j]?=some (i,x)->parts[j]?=some (k,y)->i=k/\aJ ds tr x y=true
 | [],[],_=>⟨rfl,by simp⟩
 | [],_::_,h=>by simp[jy] at h
 | _::_,[],h=>by simp[jy] at h
 | (i,x)::ps,(k,y)::parts,h=>by
  simp only[jy,Bool.and_eq_true,beq_iff_eq] at h;obtain⟨h1,h2⟩:=xE h.2;refine⟨by simp[h1],fun j=>?_⟩;cases j with
  | zero =>
   intro i' x' k' y' he he';simp at he he';obtain⟨rfl,rfl⟩:=he;obtain⟨rfl,rfl⟩:=he';exact h.1
  | succ j=>intro i' x' k' y' he he';exact h2 j i' x' k' y' (by simpa using he) (by simpa using he')
theorem VP(l:List D)(i:Nat)(x:D):ej l i x=l.set i x:=by
 induction l generalizing i with
 | nil=>rfl
 | cons a l ih=>cases i with
  | zero=>rfl
  | succ i=>simp[ej,ih]
theorem Me{x:D}{l:List D}(h:x.cellsOf=some l):x.cells=l:=by
 cases x<;>simp[D.cellsOf] at h<;>first | exact h | (subst h;rfl)
theorem Mc{L:List D}{sz i j:Nat}{y:D}(_:y.cells.length=sz)(hi:i<L.length)(hz : 0<sz) :
  cellAt (L.set i y) sz j=if i*sz<=j/\j<i*sz+sz then y.cells[j-i*sz]? else cellAt L sz j:=by
 unfold cellAt;have hmod:=Nat.div_add_mod j sz;have hlt:=Nat.mod_lt j hz;by_cases h:j / sz=i
 ·rw[Nat.mul_comm,h] at hmod
  rw[if_pos (by omega),h,List.getElem?_set_self hi,Option.bind_some];congr 1;omega
 ·rw[List.getElem?_set_ne (Ne.symm h),if_neg]
  rintro⟨h1,h2⟩;apply h;have:j / sz<i+1:=(Nat.div_lt_iff_lt_mul hz).2 (by rw[Nat.add_mul];omega);have:i<=j / sz:=(Nat.le_div_iff_mul_le hz).2 h1;omega
theorem Em{sz:Nat}(hz : 0<sz):∀(ps:List (Nat×Operand))(parts:List (Nat×X))(cs:Array Value)(L:List D)(g:Bool)(L':List D),jy ds tr ps parts=true ->
  (∀y,y∈parts.map (·.2)->∀x,aJ ds tr x y=true->ch w A (aj w ct vl) (a.eval x) (rd y)) ->
  cs.size=L.length*sz->(∀x∈L,x.cells.length=sz)->(∀j c,cellAt L sz j=some c->Pl w A (aj w ct vl) (cs.getD j undef) c/\c.pc=true)->lY rd sz L parts=some (g,L')->g=true ->
  ∃cs',Instr.fill (fun i=>some (i*sz,sz)) cs (ps.map fun(i,x)=>(i,a.eval x))=some cs'/\cs'.size=L'.length*sz/\L'.length=L.length/\(∀x∈L',x.cells.length=sz)/\∀j c,cellAt L' sz j=some c->Pl w A (aj w ct vl) (cs'.getD j undef) c/\c.pc=true
 | [],[],cs,l,g,l',_,_,h1,h1',h2,hf,_=>by
  simp[lY] at hf;obtain⟨_,rfl⟩:=hf;exact⟨cs,rfl,h1,rfl,h1',h2⟩
 | [],_::_,_,_,_,_,h,_,_,_,_,_,_=>by simp[jy] at h
 | _::_,[],_,_,_,_,h,_,_,_,_,_,_=>by simp[jy] at h
 | (i,x)::ps,(k,y)::parts,cs,L,g,L',hp,hr,h1,h1',h2,hf,hg=>by
  simp only[jy,Bool.and_eq_true,beq_iff_eq] at hp;obtain⟨⟨rfl,hx⟩,hp⟩:=hp;simp only[lY,Option.bind_eq_some_iff] at hf;obtain⟨xs,hxs,hf⟩:=hf;split at hf
  ·rename_i hlen
   rw[Option.bind_eq_some_iff] at hf;obtain⟨⟨g',L''⟩,hf,he⟩:=hf;simp only[Option.some.injEq,Prod.mk.injEq] at he;obtain⟨he1,rfl⟩:=he;rw[hg] at he1;simp at he1;have hv:=(hr y (by simp) x hx).1 he1.1;obtain⟨h3,h4⟩:=nj hv hxs;have hcel:=Me hxs;rw[VP] at hf
   have hle:i*sz+sz<=cs.size:=by
    rw[h1];have:(i+1)*sz<=L.length*sz:=Nat.mul_le_mul_right _ hlen.2.1;rw[Nat.add_mul] at this;omega
   have hvl:(a.eval x).cells.toList.length=sz:=by simp;omega
   obtain⟨cs',h7,h8,h9,h10,h11⟩:=Em hz ps parts (eT cs (i*sz) (a.eval x).cells.toList) (L.set i (rd y).core) g' L'' hp (fun y hy=>hr y (by simp only[List.map_cons,List.mem_cons];exact .inr hy))
    (by rw[p7,h1,List.length_set])
    (fun x hx=>by
      rcases List.mem_or_eq_of_mem_set hx with h | h
      ·exact h1' x h
      ·rw[h,hcel];exact hlen.1)
    (fun j c hj=>by
      rw[Mc (by rw[hcel];exact hlen.1) hlen.2.1 hz] at hj;rw[p6 _ _ _ _ (by omega),hvl];split at hj
      ·rename_i hh
       rw[if_pos hh];rw[hcel] at hj;have:=h4 _ _ hj;exact⟨by simpa using this,yO hlen.2.2 _ (List.mem_of_getElem? hj)⟩
      ·rename_i hh
       rw[if_neg hh]
       exact h2 j c hj) hf he1.2
   refine⟨cs',?_,h8,by rw[h9,List.length_set],h10,h11⟩;simp only[List.map_cons,Instr.fill];have hcond:¬((decide ((a.eval x).cells.size≠sz) || decide (i*sz+(a.eval x).cells.size > cs.size))=true):=by simp;omega
   rw[if_neg hcond];have:=tt (a.eval x).cells.toList 0 (i*sz) cs;simp only[Nat.add_zero] at this;rw[<-Array.foldl_toList,Array.toList_zipIdx,this];exact h7
  ·cases hf
theorem zA{t e:TypeId}{n:Nat}{ps:Array (Nat×Operand)}(ho:o.op=.buildSlice t n ps)(hu:P.underlying t=some (.slice e)){i:TypeInfo}{z:Value}(hi:P.info? e=some i)(hz:i.zero=some z)(hsm:n*i.size<=16777216)
  {cs:Array Value} (hf:Instr.fill (fun j=>some (j*i.size,i.size)) (madeCells z.cells (n*i.size)) (ps.toList.map fun(i,x)=>(i,a.eval x))=some cs) :
  (execOp a.eval o).run P w=.ok (.value (.slice (some ⟨w.heap.size,0,none⟩) n n)) (w.alloc (.cells cs e)):=by
 have hf':Instr.fill (fun j=>some (j*i.size,i.size)) (madeCells z.cells (n*i.size)) (ps.toList.map fun x=>(x.fst,a.eval x.snd))=some cs:=hf;have hsm':¬16777216<n*i.size:=by omega
 by_cases h0:n*i.size=0
 ·have hm:madeCells z.cells (n*i.size)=#[]:=by rw[h0];simp[madeCells,Array.range_zero']
  rw[hm] at hf';simp only[execOp,ho,Sem.run_bind,Instr.buildSlice,run_underlying hu,Result.andThen_ok,sizeOf,typeInfo,run_program];simp[hi,h0,hf',newRow,Array.range_zero']
 ·simp only[execOp,ho,Sem.run_bind,Instr.buildSlice,run_underlying hu,Result.andThen_ok,sizeOf,typeInfo,run_program]
  simp only[madeCells] at hf';simp[hi,hz,hsm',h0,zeroValue,typeInfo,hf',newRow]
theorem Du{z:D}{n j:Nat}(hz : 0<z.cells.length):cellAt (List.replicate n z) z.cells.length j=if j<n*z.cells.length then z.cells[j % z.cells.length]? else none:=by
 unfold cellAt;rw[List.getElem?_replicate];by_cases h:j / z.cells.length<n
 ·rw[if_pos h,if_pos ((Nat.div_lt_iff_lt_mul hz).1 h)];rfl
 ·rw[if_neg h,if_neg (fun hh=>h ((Nat.div_lt_iff_lt_mul hz).2 hh))];rfl
theorem XO{v:Value}{d:D}(h:iJ v d=true):d.pc=true:=by
 unfold iJ at h;split at h<;>first | rfl | cases h
theorem FO{k:Kp}{side:Prop}{c:D}(hp:bY k rd=some (side,c))(hk:aY P ds tr o k=true)
  (hx:∀y,y∈k.xs->∀x,aJ ds tr x y=true->ch w A (aj w ct vl) (a.eval x) (rd y)) (hlive:∀b,A b->b<w.heap.size) (hs:side):Cw P o a w A (aj w ct vl) c:=by
 cases k<;>try(simp[bY] at hp;done)
 case box n x =>
  simp only[aY] at hk;split at hk<;>try(cases hk;done)
  rename_i e x' hop;have ho:=yn hop;simp only[Bool.and_eq_true] at hk;simp only[bY,wA,Option.bind_eq_some_iff] at hp;obtain⟨l,hl,hp⟩:=hp;simp only[Option.some.injEq,Prod.mk.injEq] at hp;obtain⟨rfl,rfl⟩:=hp;obtain⟨⟨h1,h2,h3⟩,h4⟩:=hs;obtain⟨h5,h6⟩:=nj ((hx x (by simp[Kp.xs]) x' hk.1).1 h1) hl;exact FN h5 (by omega) (fun j c hj=>Dx (h6 j c hj) (yO h3 _ (List.mem_of_getElem? hj))) hlive (zB ho)
 case fv n x =>
  simp only[aY] at hk;split at hk<;>try(cases hk;done)
  rename_i e x' hop;have ho:=yn hop;simp only[Bool.and_eq_true] at hk;simp only[bY,wC,Option.bind_eq_some_iff] at hp;obtain⟨l,hl,l',hl',hp⟩:=hp;simp only[Option.some.injEq,Prod.mk.injEq] at hp;obtain⟨rfl,rfl⟩:=hp;obtain⟨h1,h4⟩:=hs;obtain⟨h5,h6⟩:=nj ((hx x (by simp[Kp.xs]) x' hk.1).1 h1) hl;obtain⟨h7,h8⟩:=iT hl';refine⟨_,_,fun _=>False,zB ho,lV w _,fun _ h=>h.elim,.rd (.ptr (.inr ⟨Nat.le_refl _,by simp,fun h=>h⟩) (fun j=>(a.eval x').cells.getD j undef) (fun j y hj=>?_) (fun j y hj=>?_)),fun _ _ h=>h⟩
  ·rw[Nat.zero_add]
   exact ee (heap_alloc_new w _) (by have:=(List.getElem?_eq_some_iff.1 hj).1;omega)
  ·obtain⟨z,hz,hzy⟩:=h8 j y hj
   exact(yR (h6 j z hz) hzy).mono (fun b hb=>.inl hb) (fun b hb=>heap_alloc_old w _ b (hlive b hb))
 case gi =>
  simp only[aY,Option.isSome_iff_exists] at hk;obtain⟨t,hop⟩:=hk;have ho:=SK hop;simp only[bY,Option.some.injEq,Prod.mk.injEq] at hp;obtain⟨rfl,rfl⟩:=hp;refine⟨.map (some w.heap.size),w.alloc (.map #[] 0),fun b=>b=w.heap.size,by simp[execOp,ho,Instr.makeMap,Result.andThen],lV w _,fun b hb=>by subst hb;simp,?_,fun hh=>by cases hh⟩;exact an.mp rfl (heap_alloc_new w _) ⟨⟨rfl,rfl,Nat.zero_le _⟩,fun j e k hj=>by simp at hj,fun j e k hj=>by simp at hj⟩
 case eL x =>
  simp only[aY] at hk;split at hk<;>try(cases hk;done)
  rename_i t x' hop;simp only[Bool.and_eq_true] at hk;obtain⟨hk1,hk2⟩:=hk;split at hk2<;>try(cases hk2;done)
  rename_i hu;have ho:=SR hop;simp only[bY,zy,Option.bind_eq_some_iff] at hp;obtain⟨s,hl,hp⟩:=hp;simp only[Option.some.injEq,Prod.mk.injEq] at hp;obtain⟨rfl,rfl⟩:=hp;have hx1:=(hx x (by simp[Kp.xs]) x' hk1).1 hs;have hxs:(rd x).core=.str s:=by cases hcx:(rd x).core<;>rw[hcx] at hl<;>simp[D.ng] at hl;subst hl;rfl
  rw[hxs] at hx1;refine⟨.pointer (some ⟨w.heap.size,0,none⟩),w.alloc (.stringIter ⟨s.toArray⟩ 0),fun b=>b=w.heap.size,?_,lV w _,fun b hb=>by subst hb;simp,an.bR rfl (heap_alloc_new w _) (gG hx1).2,fun hh=>by cases hh⟩;simp only[execOp,ho,(gG hx1).1,Sem.run_bind,run_range_string w t _ hu,Result.andThen_ok,Sem.run_pure];rfl
 case fZ x =>
  simp only[aY] at hk;split at hk<;>try(cases hk;done)
  rename_i s0 d0 x' hop;have ho:=yp hop;simp only[Bool.and_eq_true] at hk;obtain⟨hk1,hk2⟩:=hk;split at hk2<;>try(cases hk2;done)
  rename_i e hu1 hu2;split at hk2<;>try(cases hk2;done)
  rename_i hu3;simp only[bY,wU,Option.bind_eq_some_iff] at hp;obtain⟨s,hl,hp⟩:=hp;simp only[Option.some.injEq,Prod.mk.injEq] at hp;obtain⟨rfl,rfl⟩:=hp;obtain⟨hg,hmax⟩:=hs;have hx1:=(hx x (by simp[Kp.xs]) x' hk1).1 hg;have hxs:(rd x).core=.str s:=by cases hcx:(rd x).core<;>rw[hcx] at hl<;>simp[D.ng] at hl;subst hl;rfl
  rw[hxs] at hx1;have hsz:(⟨s.toArray⟩:ByteArray).size=s.length:=by show s.toArray.size=_;simp
  have hcm:grownCap w s.length 0 e<=maxLen:=grownCap_le_maxLen w _ 0 e (by simp only[maxLen];omega);have hge:=grownCap_ge w s.length 0 e;have hcs:(Lib.bytesCells w e ⟨s.toArray⟩).size=grownCap w s.length 0 e:=by simp only[Lib.bytesCells,hsz,Array.size_append,Array.size_map,List.size_toArray,Array.size_replicate];omega
  refine⟨_,Lib.bytesWorld w e ⟨s.toArray⟩,fun b=>b=w.heap.size,by simp only[execOp,ho,(gG hx1).1,Sem.run_bind,Lib.run_convert_string_bytes w s0 d0 e _ hu1 hu2 hu3,Result.andThen_ok,Sem.run_pure];rfl,
   ⟨by rw[Lib.bytesWorld_size];omega,fun b hb=>Lib.bytesWorld_at_old w e _ b hb,rfl,rfl,rfl⟩,fun b hb=>by subst hb;rw[Lib.bytesWorld_size];omega,?_,fun hh=>by cases hh⟩
  rw[hsz]
  have key:=an.slice (w:=Lib.bytesWorld w e ⟨s.toArray⟩) (A:=jG A w (Lib.bytesWorld w e ⟨s.toArray⟩) (·=w.heap.size)) (z:=.int .u8 0) (L:=s.map fun b=>D.int .u8 b.toNat) (b:=w.heap.size) (off:=0) (cap:=grownCap w s.length 0 e) (sz:=1) (F:=(·=w.heap.size))
   (fun _ _=>False) (Lib.bytesWorld_at_new w e ⟨s.toArray⟩) ⟨by omega,.inr (Nat.le_refl _)⟩ (by rw[List.length_map];exact hge) hcm (by decide) rfl (fun x hx=>by obtain⟨y,_,rfl⟩:=List.mem_map.1 hx;rfl) (fun j x hj=>?_) rfl (fun _ _ h=>h.elim) (fun _ _ _ _ h=>h.elim)
  ·rw[List.length_map] at key;exact key
  unfold cellAt at hj;rw[Nat.div_one,Nat.mod_one,List.getElem?_map] at hj;cases hq:s[j]? with
  | none=>rw[hq] at hj;cases hj
  | some b =>
   rw[hq] at hj;simp only[Option.map_some,Option.bind_some,D.cells,List.getElem?_cons_zero,Option.some.injEq] at hj;subst hj;have hjl:=(List.getElem?_eq_some_iff.1 hq).1
   have hv:(Lib.bytesCells w e ⟨s.toArray⟩).getD (0+j) undef=.int .u8 b.toNat:=by
    rw[Nat.zero_add,Array.getD_eq_getD_getElem?];unfold Lib.bytesCells;rw[Array.getElem?_append_left (by simpa using hjl),Array.getElem?_map,List.getElem?_toArray,hq];rfl
   rw[hv];have:=b.toNat_lt;refine .int ?_;simp[IntKind.has,IntKind.min,IntKind.max,IntKind.signed,IntKind.bits];omega
 case cw zs =>
  simp only[aY] at hk;split at hk<;>try(cases hk;done)
  rename_i t hop;have ho:=SD hop;simp only[bY,Option.some.injEq,Prod.mk.injEq] at hp;obtain⟨rfl,rfl⟩:=hp;obtain⟨i,z,h1,h2,h3,h4,h5⟩:=sx hk;exact FN (cs:=z.cells) (e:=t) (by simpa using h4) (List.length_pos_iff.2 hs) (fun j c hc=>XP (h5 j (lH c) (by rw[List.getElem?_map,hc];rfl))) hlive (by simp[execOp,ho,Instr.alloc,zeroValue,typeInfo,h1,h2,newVar,newRow])
 case ak z bytes x y =>
  simp only[aY] at hk;split at hk<;>try(cases hk;done)
  rename_i t x' y' hop;have ho:=SL hop;simp only[Bool.and_eq_true,decide_eq_true_eq] at hk;obtain⟨⟨⟨hk1,hk2⟩,hk3⟩,hk4⟩:=hk;split at hk4<;>try(cases hk4;done)
  rename_i e he;simp only[Bool.and_eq_true,decide_eq_true_eq] at hk4;obtain⟨i,z',h1,h2,h3,h4,h5⟩:=sx hk4.1.1
  have hby:i.bytes=bytes:=by
   have:=hk4.1.2;unfold nC at this;rw[h1] at this;simpa using this
  simp only[bY,xX,Option.bind_eq_some_iff] at hp;obtain⟨l,hl,cc,hc,hp⟩:=hp;simp only[Option.some.injEq,Prod.mk.injEq] at hp;obtain⟨rfl,rfl⟩:=hp;obtain⟨⟨g1,g2⟩,hl0,hlc,hbytes⟩:=hs;have hx1:=(hx x (by simp[Kp.xs]) x' hk1).1 g1;have hy1:=(hx y (by simp[Kp.xs]) y' hk2).1 g2
  have ek1:∃k,a.eval x'=.int k l:=by
   cases hcx:(rd x).core<;>rw[hcx] at hl hx1<;>simp[D.int?] at hl;subst hl;exact⟨_,(ey hx1).1⟩
  have ek2:∃k,a.eval y'=.int k cc:=by
   cases hcx:(rd y).core<;>rw[hcx] at hc hy1<;>simp[D.int?] at hc;subst hc;exact⟨_,(ey hy1).1⟩
  obtain⟨k1,ek1⟩:=ek1;obtain⟨k2,ek2⟩:=ek2
  have hc63:cc<=9223372036854775807/\cc.toNat<=maxLen:=by
   have h10:cc<=bytes*cc:=by
    have:(1:Int)*cc<=bytes*cc:=Int.mul_le_mul_of_nonneg_right (by have:=hk4.2;omega) (by omega);omega
   simp only[maxLen];omega
  have hrun:=run_make (P:=P) w t e i z' (kG he) h1 h2 k1 k2 l cc hl0 hlc (by rw[hby];exact hbytes) hc63.1;have hsz:z'.cells.size=z.cells.length:=h4;refine⟨.slice (some ⟨w.heap.size,0,none⟩) l.toNat cc.toNat,w.alloc (.cells (madeCells z'.cells (cc.toNat*i.size)) e),(·=w.heap.size),?_,lV w _,fun b hb=>by subst hb;simp,?_,fun h=>by cases h⟩
  ·simp only[execOp,ho,ek1,ek2,Sem.run_bind,hrun,Result.andThen_ok,Sem.run_pure]
  ·have:=an.slice (w:=w.alloc (.cells (madeCells z'.cells (cc.toNat*i.size)) e)) (A:=jG A w (w.alloc (.cells (madeCells z'.cells (cc.toNat*i.size)) e)) (·=w.heap.size)) (z:=z) (L:=List.replicate l.toNat z) (off:=0) (cap:=cc.toNat) (sz:=z.cells.length) (F:=(·=w.heap.size)) (fun _ _=>False) (heap_alloc_new w _) (by simp[madeCells,h3]) (by simp;omega) hc63.2 hk3 rfl
     (fun x hx=>by rw[(List.mem_replicate.1 hx).2])
     (fun j x hx=>by
       rw[Du hk3] at hx;split at hx
       ·rename_i hj
        have hj2:j<cc.toNat*i.size:=by
         rw[h3];exact Nat.lt_of_lt_of_le hj (Nat.mul_le_mul_right _ (by omega))
        rw[Nat.zero_add,ED hj2 (by omega),hsz];exact(La (h5 _ _ hx)).1
       ·cases hx) rfl (fun _ _ h=>h.elim) (fun _ _ _ _ h=>h.elim)
   rw[List.length_replicate] at this;exact this
 case aR z n parts =>
  simp only[aY] at hk;split at hk<;>try(cases hk;done)
  rename_i t n' ps hop;have ho:=Gh hop;simp only[Bool.and_eq_true,decide_eq_true_eq,beq_iff_eq] at hk;obtain⟨⟨⟨⟨rfl,hk1⟩,hk2⟩,hk3⟩,hk4⟩:=hk;split at hk4<;>try(cases hk4;done)
  rename_i e he;obtain⟨i,z',h1,h2,h3,h4,h5⟩:=sx hk4;have hu:=kG he
  have hm2:∀j c,cellAt (List.replicate n z) z.cells.length j=some c->Pl w A (aj w ct vl) ((madeCells z'.cells (n*i.size)).getD j undef) c/\c.pc=true:=by
   intro j c hj;rw[Du hk2] at hj;split at hj
   ·rename_i hjn
    rw[ED (by rw[h3];exact hjn) (by omega),h4];exact⟨.rd (Cr (h5 _ _ hj)),XO (h5 _ _ hj)⟩
   ·cases hj
  have hfill:=fun g L' (hf:lY rd z.cells.length (List.replicate n z) parts=some (g,L')) (hg:g=true) =>
   Em (w:=w) (A:=A) (ct:=ct) (vl:=vl) (a:=a) hk2 ps.toList parts (madeCells z'.cells (n*i.size)) (List.replicate n z) g L' hk1 hx (by simp[madeCells,h3]) (fun x hx=>by rw[(List.mem_replicate.1 hx).2]) hm2 hf hg
  simp only[bY] at hp;unfold qy at hp;split at hp
  ·
   simp only[Option.some.injEq,Prod.mk.injEq] at hp;obtain⟨_,rfl⟩:=hp
   have hps:ps.toList=[]:=by
    have:=(xE hk1).1;exact List.eq_nil_of_length_eq_zero (by simpa using this)
   have hf:Instr.fill (fun j=>some (j*i.size,i.size)) (madeCells z'.cells (0*i.size)) (ps.toList.map fun(i,x)=>(i,a.eval x))=some (madeCells z'.cells (0*i.size)):=by rw[hps];rfl
   have hrun:=zA (P:=P) (w:=w) ho hu h1 h2 (by omega) hf;refine⟨_,_,(·=w.heap.size),hrun,lV w _,fun b hb=>by subst hb;simp,?_,fun h=>by cases h⟩;exact an.slice (L:=[]) (off:=0) (cap:=0) (sz:=z.cells.length) (fun _ _=>False) (heap_alloc_new w _) (by simp) (by simp) (by simp) hk2 rfl (by simp) (by simp[cellAt]) rfl (fun _ _ h=>h.elim) (fun _ _ _ _ h=>h.elim)
  ·cases hp
  ·rename_i n
   rw[Option.bind_eq_some_iff] at hp;obtain⟨⟨g,L⟩,hf,hp⟩:=hp;simp only[Option.some.injEq,Prod.mk.injEq] at hp;obtain⟨rfl,rfl⟩:=hp;obtain⟨cs',h6,h7,h8,h9,h10⟩:=hfill g L hf hs;have hL:L.length=n+1:=by simpa using h8
   rw[<-h3] at h6;have hrun:=zA (P:=P) (w:=w) ho hu h1 h2 (by rw[h3];exact hk3) h6
   have hb1:n+1<=16777216:=by
    have h11:(n+1)*1<=(n+1)*z.cells.length:=Nat.mul_le_mul_left _ hk2;have h12:(n+1)*z.cells.length<=16777216:=hk3;omega
   cases hfs:four L&&jN L with
   | false =>
    refine⟨_,_,(·=w.heap.size),hrun,lV w _,fun b hb=>by subst hb;simp,⟨w.heap.size,z.cells.length,cs',e,by rw[hL],heap_alloc_new w _,h7,by rw[hL];simp only[maxLen];omega,hk2,rfl,h9,fun j c hj=>?_,rfl⟩,fun h=>by cases h⟩;exact⟨(h10 j c hj).1.mono (Q:=fun _=>True) (fun b hb=>.inl hb) (fun b hb=>heap_alloc_old w _ b (hlive b hb)) (bq (fun _=>trivial) _) fun v d _ hr=>hr,(h10 j c hj).2⟩
   | true =>
    rw[Bool.and_eq_true] at hfs;refine⟨_,_,(·=w.heap.size),hrun,lV w _,fun b hb=>by subst hb;simp,?_,fun h=>by cases h⟩;rw[show n.succ=L.length from hL.symm];refine an.slice (off:=0) (sz:=z.cells.length) (fun _ _=>False) (heap_alloc_new w _) (by rw[h7];simp) (Nat.le_refl _) (by rw[hL];simp only[maxLen];omega) hk2 rfl h9 (fun j c hj=>?_) rfl (fun _ _ h=>h.elim) fun _ _ _ _ h=>h.elim
    rw[Nat.zero_add];exact Tj (h10 j c hj).1 (Ma hfs.2 hj)
end
end Go.D3
namespace Go.D3
open Go
theorem pM:∀{l:List D},cB l=true->∀x∈l,x.ba=true
 | [],_,x,hx=>by cases hx
 | y::r,h,x,hx=>by
  simp only[cB,Bool.and_eq_true] at h;rcases List.mem_cons.1 hx with rfl | hx
  ·exact h.1
  ·exact pM h.2 x hx
theorem Qg{L:List D}{sz j:Nat}{c:D}(h:cB L=true)(hc:cellAt L sz j=some c):c.ba=true:=by
 unfold cellAt at hc;cases hq:L[j / sz]? with
 | none=>simp[hq] at hc
 | some d =>
  rw[hq,Option.bind_some] at hc;have hd:=pM h d (List.mem_of_getElem? hq);have hm:=List.mem_of_getElem? hc;cases d<;>simp only[D.cells,List.mem_singleton] at hm<;>first | (subst hm;exact hd) | exact pM hd c hm
theorem uq{w:World}{A A':Nat->Prop}{d:D}{v:Value}{F:Nat->Prop}(h:an w A v d F):d.ba=true->an w A' v d F:=by
 induction h with
 | int h=>exact fun _=>.int h
 | bool=>exact fun _=>.bool
 | str h=>exact fun _=>.str h
 | nil=>exact fun _=>.nil
 | bp=>exact fun _=>.bp
 | fn=>exact fun _=>.fn
 | vw h=>exact fun hn=>by simp[D.ba] at hn
 | dead=>exact fun _=>.dead
 | mp hF hb hE=>exact fun _=>.mp hF hb hE
 | bO=>exact fun _=>.bO
 | bD h=>exact fun hn=>by simp[D.ba] at hn
 | bj=>exact fun _=>.bj
 | bR hF hb hs=>exact fun _=>.bR hF hb hs
 | slice Fs hb hroom hc hm hz hzz hsz hr hF hfs hdis ih=>exact fun hn=>.slice Fs hb hroom hc hm hz hzz hsz (fun j x hx=>ih j x hx (Qg hn hx)) hF hfs hdis
 | agg Fs hs hr hfs hdis ih=>exact fun hn=>.agg Fs hs (fun j x hx=>ih j x hx (pM hn x (List.mem_of_getElem? hx))) hfs hdis
 | au Fs hs hr hfs hdis ih=>exact fun hn=>.au Fs hs (fun j x hx=>ih j x hx (pM hn x (List.mem_of_getElem? hx))) hfs hdis
 | ptr Fs hb hs hr hF hfs hdis ih=>exact fun hn=>.ptr Fs hb hs (fun j x hx=>ih j x hx (pM hn x (List.mem_of_getElem? hx))) hF hfs hdis
section
variable{P:Program}{o:Oper}{w:World}{A:Nat->Prop}{ct:Nat->D}{vl:Nat->Value}{a:Act}{ds:List (Option Nat)}{tr:List Nat}{rd:X->D}{ob:Nat->D}
def live(w:World)(b:Nat):Prop:=b<w.heap.size
theorem KN{z:D}:∀{l:List D},qa z l=true->∀x∈l,x.cells.length=z.cells.length
 | [],_,x,hx=>by cases hx
 | y::r,h,x,hx=>by
  simp only[qa,Bool.and_eq_true,decide_eq_true_eq] at h;rcases List.mem_cons.1 hx with rfl | hx
  ·exact h.1
  ·exact KN h.2 x hx
theorem Ey{n:Nat}{e e':D}(h:bh ob (n+1) e=some e')(hpe:e.pc=true):e'.isAgg=false:=by
 cases e<;>try(simp[D.pc] at hpe;done)
 case fn f caps =>
  simp only[bh,Option.bind_eq_some_iff] at h;obtain⟨l',_,h⟩:=h;simp only[Option.some.injEq] at h;subst h;rfl
 all_goals simp only[bh] at h
 all_goals try(simp only[Option.some.injEq] at h;subst h;rfl)
 all_goals try(cases h;done)
 ·rw[Option.bind_eq_some_iff] at h
  obtain⟨c,_,h⟩:=h;split at h
  ·rw[Option.bind_eq_some_iff] at h
   obtain⟨l',_,h⟩:=h;split at h<;>simp only[Option.some.injEq,reduceCtorEq] at h;subst h;rfl
  ·split at h
   ·cases h
   ·rename_i hh;simp only[Option.some.injEq] at h;subst h;simpa using hh
 ·rw[Option.bind_eq_some_iff] at h
  obtain⟨c,_,h⟩:=h;split at h
  ·rw[Option.bind_eq_some_iff] at h
   obtain⟨l',_,h⟩:=h;simp only[Option.some.injEq] at h;subst h;rfl
  ·simp only[Option.some.injEq] at h;subst h;rfl
  ·cases h
theorem MX{n:Nat}{e e':D}(h:bh ob n e=some e')(hl:e'.cells.length=e.cells.length)(hpc:∀c∈e.cells,c.pc=true):∀(j:Nat)(y:D),e'.cells[j]?=some y->∃(c:D)(m:Nat),e.cells[j]?=some c/\bh ob m c=some y:=by
 cases n with
 | zero=>simp[bh] at h
 | succ n =>
  by_cases ha:e.isAgg=true
  ·cases e<;>simp[D.isAgg] at ha
   rename_i l;simp only[bh,Option.bind_eq_some_iff] at h;obtain⟨l',h1,h2⟩:=h;injection h2 with h2
   subst h2;intro j y hj;obtain⟨x,h3,h4⟩:=(iT h1).2 j y hj;exact⟨x,n,h3,h4⟩
  ·have ha':e.isAgg=false:=by simpa using ha
   have hec:=D.cells_one ha';rw[hec] at hl hpc|-
   have hpe:=hpc e (by simp);have hne:=Ey h hpe;rw[D.cells_one hne];intro j y hj;cases j with
   | zero=>simp at hj;subst hj;exact⟨e,n+1,rfl,h⟩
   | succ j=>simp at hj
theorem Gy{v:Value}{d:D}{F:Nat->Prop}(hA:∀b,A b->live w b)(hF:∀b,F b->live w b)(h:an w A v d F):Rd w (live w) v d:=h.rd hA hF
theorem tW{k:Nat}{c:D}(h:lk ob k=some c):(ob k).isObj=true/\c=ob k:=by
 unfold lk at h;split at h
 ·rename_i ho;simp only[Option.some.injEq] at h;exact⟨ho,h.symm⟩
 ·cases h
theorem uF{B:Nat->Prop}{v:Value}{d:D}{F:Nat->Prop}(hA:∀b,A b->B b)(hF:∀b,F b->B b)(h:an w A v d F):Rd w B v d:=h.rd hA hF
theorem TD{B:Nat->Prop}{q:Option Addr}{m n c:Nat}{z:D}{l:List D}(h:Rd w B (.slice q m c) (.slice z l))(hn:n<=m):Rd w B (.slice q n c) (.slice z (l.take n)):=by
 generalize hv:Value.slice q m c=v at h;cases h with
 | nil =>
  injection hv with e1 e2 e3
  subst e1;subst e2;subst e3;have:n=0:=by omega
  subst this;exact .nil
 | empty hm =>
  injection hv with e1 e2 e3
  subst e1;subst e2;subst e3;have:n=0:=by omega
  subst this;exact .empty hm
 | slice hA hc hm hz hzz hsz vs hcells hr =>
  injection hv with e1 e2 e3
  subst e1;subst e2;subst e3;have hl:(l.take n).length=n:=by rw[List.length_take];omega
  have hcut:∀j x,cellAt (l.take n) _ j=some x->cellAt l _ j=some x:=fun j x hx=>by
   have:=wN (L:=l) (h:=n) (l:=0) hz (by simpa using hx);simpa using this
  have:=Rd.slice (w:=w) (z:=z) (L:=l.take n) hA (by omega) hm hz hzz (fun y hy=>hsz y (List.mem_of_mem_take hy)) vs (fun j x hx=>hcells j x (hcut j x hx)) (fun j x hx=>hr j x (hcut j x hx));rw[hl] at this;exact this
theorem nM{B:Nat->Prop}(hA:∀b,A b->B b)(hob:∀j,(ct j).isObj=true->(ob j).isObj=true->ob j=ct j)(hok:∀j,(ct j).isObj=true->(ob j).isObj=true->∃F,(∀b,F b->B b)/\aK w A (aj w ct vl) (vl j) F (ct j)) :
  ∀(n:Nat){v:Value}{d x:D},Pl w A (aj w ct vl) v d->bh ob n d=some x->Rd w B v x
 | 0,v,d,x,_,h=>by simp[bh] at h
 | n+1,v,d,x,hv,h=>by
  have same:∀{v:Value}{d:D},Pl w A (aj w ct vl) v d->(∀k p,d≠.sub k p)->(∀k p,d≠.aw k p)->(∀f c,d≠.fn f c)->(∀l,d≠.agg l)->(∀l,d≠.au l)->(h6:∀k p n,d≠.pre k p n:=by simp)->Rd w B v d :=
   fun hv h1 h2 h3 h4 h5 h6=>(b6 hv h1 h2 h3 h4 h5 h6).mono hA fun _ _=>rfl
  have cell:∀{v:Value}{F:Nat->Prop}{c y:D},(∀b,F b->B b)->b7 w A (aj w ct vl) v F c->bh ob n c=some y->Rd w B v y:=by
   intro v F c y hF hc hy;by_cases ho:∃z,c=.o z
   ·obtain⟨z,rfl⟩:=ho
    cases n with
    | zero=>simp[bh] at hy
    | succ m =>
     simp only[bh,Option.some.injEq] at hy;subst hy;exact uF hA hF hc
   ·have hpl:Pl w A (aj w ct vl) v c:=by
     cases c<;>first | exact hc | exact hc.elim | exact absurd ⟨_,rfl⟩ ho
    exact nM hA hob hok n hpl hy
  cases d
  case pre k p m =>
   simp only[bh] at h;rw[Option.bind_eq_some_iff] at h;obtain⟨c0,hc0,h⟩:=h;obtain⟨hobj,hc1⟩:=tW hc0;cases hv with
   | rd hv=>cases hv
   | ref hv =>
    obtain⟨q,l0,cp,⟨g1,g2⟩,g3,rfl⟩:=hv;have hcto:(ct k).isObj=true:=nP g1.1;obtain⟨F,hF,hc⟩:=hok k hcto hobj;rw[hc1,hob k hcto hobj] at h;clear hc0 hc1;have hr:aj w ct vl (.slice q l0 cp) (.sub k p):=⟨g1,g2,.inl ⟨_,_,_,rfl⟩⟩;rcases lF hc hr with⟨z,l,hck,rfl,hvl⟩ | ⟨F',hown,hFF,_,hnr⟩
    ·rw[hck] at h;cases h
    ·have hd:∃z l,(ct k).bm p=.slice z l/\x=.slice z (l.take m):=by
      split at h
      ·rename_i z l hck;exact absurd hck (hnr z l)
      ·split at h
       ·rename_i z l hd
        injection h with h
        exact⟨z,l,hd,h.symm⟩
       ·cases h
     obtain⟨z,l,hd,rfl⟩:=hd;rw[hd] at hown;have hrd:=uF hA (fun b hb=>hF b (hFF b hb)) hown;exact TD hrd g3
  case sub k p =>
   simp only[bh] at h;have hr:=dW hv;rw[Option.bind_eq_some_iff] at h;obtain⟨c0,hc0,h⟩:=h;obtain⟨hobj,hc1⟩:=tW hc0;have hcto:(ct k).isObj=true:=nP hr.1.1;obtain⟨F,hF,hc⟩:=hok k hcto hobj;rw[hc1,hob k hcto hobj] at h;clear hc0 hc1;rcases lF hc hr with⟨z,l,hck,rfl,hvl⟩ | ⟨F',hown,hFF,_,hnr⟩
   ·rw[hck] at h hc
    simp only[Option.bind_eq_some_iff] at h;obtain⟨l',hl',h⟩:=h;split at h
    ·rename_i hsz
     injection h with h
     subst h;obtain⟨b,sz,cs,e,h1,h2,h3,h4,h5,h6,h7,h8,h9⟩:=hc;obtain⟨h12,h13⟩:=iT hl';have hszs:=KN hsz;rw[hvl,h1,<-h12]
     have key:∀j y,cellAt l' sz j=some y->j<cs.size/\Rd w B (cs.getD j undef) y:=by
      intro j y hj;have hlt:=kR h5 hj;rw[h12] at hlt;refine⟨by omega,?_⟩;unfold cellAt at hj;cases hq:l'[j / sz]? with
      | none=>simp[hq] at hj
      | some e' =>
       rw[hq,Option.bind_some] at hj;obtain⟨e0,he0,hge⟩:=h13 _ _ hq
       have hcell:∀(i:Nat)(c:D),e0.cells[i]?=some c->i<sz->cellAt l sz (j / sz*sz+i)=some c:=by
        intro i c hi his;unfold cellAt;have e1:(j / sz*sz+i) / sz=j / sz:=by rw[Nat.mul_comm,Nat.mul_add_div h5,Nat.div_eq_of_lt his];rfl
        have e2:(j / sz*sz+i) % sz=i:=by rw[Nat.mul_comm,Nat.mul_add_mod,Nat.mod_eq_of_lt his]
        rw[e1,e2,he0];exact hi
       have hl0:=h7 e0 (List.mem_of_getElem? he0)
       have hpc:∀c∈e0.cells,c.pc=true:=by
        intro c hcm;obtain⟨i,hi,hci⟩:=List.getElem_of_mem hcm;exact(h8 _ _ (hcell i c (by rw[List.getElem?_eq_getElem hi,hci]) (by omega))).2
       have hmod:=Nat.mod_lt j h5;have hdm:j / sz*sz+j % sz=j:=by rw[Nat.mul_comm];exact Nat.div_add_mod j sz
       cases n with
       | zero=>simp[bh] at hge
       | succ n =>
        by_cases ha:e0.isAgg=true
        ·cases e0<;>simp[D.isAgg] at ha
         rename_i l0;simp only[bh,Option.bind_eq_some_iff] at hge;obtain⟨l1,h14,h15⟩:=hge;injection h15 with h15
         subst h15;obtain⟨c,h16,h17⟩:=(iT h14).2 _ _ hj;have:=(h8 _ _ (hcell _ c h16 hmod)).1;rw[hdm] at this;exact nM hA hob hok n this h17
        ·have ha':e0.isAgg=false:=by simpa using ha
         obtain⟨c,m,h14,h15⟩:=MX hge (by rw[hszs e' (List.mem_of_getElem? hq),h6,hl0]) hpc _ _ hj;rw[D.cells_one ha'] at h14 hl0;simp only[List.length_cons,List.length_nil,Nat.zero_add] at hl0;have hj0:j % sz=0:=by omega
         rw[hj0] at h14 hj;simp only[List.getElem?_cons_zero,Option.some.injEq] at h14;subst h14;have hc1:=(h8 _ _ (hcell 0 e0 (by rw[D.cells_one ha'];rfl) (by omega))).1;rw[<-hj0,hdm] at hc1;have:=nM hA hob hok (n+1) hc1 hge;have hlen:=hszs e' (List.mem_of_getElem? hq);rw[h6,<-hl0] at hlen;rw[D.cells_one (Ey hge (hpc e0 (by rw[D.cells_one ha'];simp)))] at hj;simp at hj;rw[<-hj];exact this
     refine .slice (hF _ h9) (Nat.le_refl _) (by rw[h12];exact h4) h5 h6 (fun x hx=>by rw[hszs x hx,h6]) (fun j=>cs.getD j undef) (fun j y hj=>?_) (fun j y hj=>(key j y hj).2);rw[Nat.zero_add];exact ee h2 (key j y hj).1
    ·cases h
   ·have h':(if((ct k).bm p).isAgg=true then none else some ((ct k).bm p))=some x:=by
     revert h;cases hck:ct k<;>first | exact id | exact absurd hck (hnr _ _)
    split at h'
    ·cases h'
    ·injection h' with h'
     subst h';exact uF hA (fun b hb=>hF b (hFF b hb)) hown
  case aw k p =>
   simp only[bh] at h;have hr:=fR hv;rw[Option.bind_eq_some_iff] at h;obtain⟨c0,hc0,h⟩:=h;obtain⟨hobj,hc1⟩:=tW hc0;have hcto:(ct k).isObj=true:=nP hr.1;obtain⟨F,hF,hc⟩:=hok k hcto hobj;rw[hc1,hob k hcto hobj] at h;clear hc0 hc1;split at h
   ·rename_i l s off hck
    rw[hck] at hc;rw[Option.bind_eq_some_iff] at h;obtain⟨l',hl',h⟩:=h;injection h with h
    subst h;obtain⟨_,b,cs,e,Fs,h1,h2,h3,h4,h5,h6,h7⟩:=hc;obtain⟨_,ad,h8,h9⟩:=hr;rw[hck,h1] at h8;simp only[aH,dU,D.un,er,Option.some.injEq,Nat.zero_add] at h8;subst h8;rw[h9];obtain⟨h12,h13⟩:=iT hl';refine .ptr (hF b h5) (fun j=>cs.getD (off+j) undef) (fun j y hj=>?_) (fun j y hj=>?_)
    ·rw[List.getElem?_drop] at hj
     have:=(List.getElem?_eq_some_iff.1 hj).1;exact ee h2 (by omega)
    ·rw[List.getElem?_drop] at hj
     obtain⟨c,hc1,hc2⟩:=h13 _ _ hj;exact cell (fun b hb=>hF b (h6 _ b hb).2) (h4 _ _ hc1) hc2
   ·rename_i l s off hck
    rw[hck] at hc;injection h with h
    subst h
    obtain⟨b,cs,e,Fs,h1,h2,h3,h4,h5,h6⟩:∃(b:Nat)(cs:Array Value)(e:TypeId)(Fs:Nat->Nat->Prop),vl k=.pointer (some ⟨b,0,none⟩)/\w.heap[b]?=some (.cells cs e (0,0))/\cs.size=l.length/\(∀j x,l[j]?=some x->an w A (cs.getD j undef) x (Fs j))/\F b/\∀j c,Fs j c->F c:=by
     have hc:an w A (vl k) (.ptr l) F:=hc;generalize vl k=u at hc;cases hc with
     | ptr Fs hb hs hr hF hfs _=>exact⟨_,_,_,Fs,rfl,hb,hs,hr,hF,fun j c h=>(hfs j c h).2⟩
    obtain⟨_,ad,h8,h9⟩:=hr;rw[hck,h1] at h8;simp only[aH,dU,D.un,er,Option.some.injEq,Nat.zero_add] at h8;subst h8;rw[h9];refine .ptr (hF b h5) (fun j=>cs.getD (off+j) undef) (fun j y hj=>?_) (fun j y hj=>?_)
    ·rw[List.getElem?_drop] at hj
     have:=(List.getElem?_eq_some_iff.1 hj).1;exact ee h2 (by omega)
    ·rw[List.getElem?_drop] at hj
     exact uF hA (fun b hb=>hF b (h6 _ b hb)) (h4 _ _ hj)
   ·cases h
  case agg l =>
   simp only[bh,Option.bind_eq_some_iff] at h;obtain⟨l',hl',h⟩:=h;injection h with h
   subst h;obtain⟨cs,rfl,h1,h2⟩:=lA hv;obtain⟨h3,h4⟩:=iT hl'
   exact .agg (by rw[h1,h3]) fun j y hj=>by
    obtain⟨c,hc1,hc2⟩:=h4 j y hj;exact nM hA hob hok n (h2 j c hc1) hc2
  case fn f caps =>
   simp only[bh,Option.bind_eq_some_iff] at h;obtain⟨l',hl',h⟩:=h;injection h with h
   subst h;obtain⟨cs,rfl,h1,h2⟩:=mJ hv;obtain⟨h3,h4⟩:=iT hl'
   exact .fn (by rw[h1,h3]) fun j y hj=>by
    obtain⟨c,hc1,hc2⟩:=h4 j y hj;exact nM hA hob hok n (h2 j c hc1) hc2
  case aB z =>
   simp only[bh,Option.some.injEq] at h;subst h;exact(yR hv rfl).mono hA fun _ _=>rfl
  case o y =>
   simp only[bh,Option.some.injEq] at h;subst h;have:=b6 hv (by simp) (by simp) (by simp) (by simp) (by simp);cases this with
   | o h=>exact h.mono hA fun _ _=>rfl
  all_goals simp only[bh,Option.some.injEq,reduceCtorEq] at h
  all_goals
   subst h;exact same hv (by simp) (by simp) (by simp) (by simp) (by simp)
theorem MY(hA:∀b,A b->live w b)(hob:∀j,(ct j).isObj=true->ob j=ct j)(hok:∀j,∃F,(∀b,F b->live w b)/\aK w A (aj w ct vl) (vl j) F (ct j))(n:Nat){v:Value}{d x:D}(h:Pl w A (aj w ct vl) v d)(hg:bh ob n d=some x):Rd w (live w) v x :=
 nM hA (fun j h _=>hob j h) (fun j _ _=>hok j) n h hg
theorem P9{v:Value}{d:D}(h:aj w ct vl v d)(hd:d.refs eP):False:=by
 cases d<;>first | exact h.elim | exact hd.elim
theorem sN{v:Value}{d:D}(h:Pl w A (aj w ct vl) v d)(hd:d.refs eP):Rd w A v d:=by
 induction h with
 | rd h=>exact h
 | ref h=>exact(P9 h hd).elim
 | agg hs _ ih=>exact .agg hs fun j x hx=>ih j x hx (bB.1 hd x (List.mem_of_getElem? hx))
 | au hs _ ih=>exact .au hs fun j x hx=>ih j x hx (bB.1 hd x (List.mem_of_getElem? hx))
 | fn hs _ ih=>exact .fn hs fun j x hx=>ih j x hx (bB.1 hd x (List.mem_of_getElem? hx))
theorem tu:∀(n:Nat){v:Value}{d x:D},Pl w A (aj w ct vl) v d->d.refs eP->bh ob n d=some x->Rd w A v x
 | 0,v,d,x,_,_,h=>by simp[bh] at h
 | n+1,v,d,x,hv,hd,h=>by
  cases d
  case sub k p=>exact hd.elim
  case aw k p=>exact hd.elim
  case pre k p m=>exact hd.elim
  case agg l =>
   simp only[bh,Option.bind_eq_some_iff] at h;obtain⟨l',hl',h⟩:=h;injection h with h
   subst h;obtain⟨cs,rfl,h1,h2⟩:=lA hv;obtain⟨h3,h4⟩:=iT hl'
   exact .agg (by rw[h1,h3]) fun j y hj=>by
    obtain⟨c,hc1,hc2⟩:=h4 j y hj;exact tu n (h2 j c hc1) (bB.1 hd c (List.mem_of_getElem? hc1)) hc2
  case fn f caps =>
   simp only[bh,Option.bind_eq_some_iff] at h;obtain⟨l',hl',h⟩:=h;injection h with h
   subst h;obtain⟨cs,rfl,h1,h2⟩:=mJ hv;obtain⟨h3,h4⟩:=iT hl'
   exact .fn (by rw[h1,h3]) fun j y hj=>by
    obtain⟨c,hc1,hc2⟩:=h4 j y hj;exact tu n (h2 j c hc1) (bB.1 hd c (List.mem_of_getElem? hc1)) hc2
  case aB z =>
   simp only[bh,Option.some.injEq] at h;subst h;exact yR hv rfl
  case o y =>
   simp only[bh,Option.some.injEq] at h;subst h;have:=b6 hv (by simp) (by simp) (by simp) (by simp) (by simp);cases this with
   | o h=>exact h
  all_goals simp only[bh,Option.some.injEq,reduceCtorEq] at h
  all_goals
   subst h;exact b6 hv (by simp) (by simp) (by simp) (by simp) (by simp)
theorem sL{A':Nat->Prop}:∀{xs:List Operand}{ys:List X}{dts:List D},eK ds tr xs ys=true->(∀y,y∈ys->∀x,aJ ds tr x y=true->ch w A (aj w ct vl) (a.eval x) (rd y)) ->
  (∀y,y∈ys->∀{v:Value}{x:D},Pl w A (aj w ct vl) v (rd y).core->bh ob 4 (rd y).core=some x->Rd w A' v x) ->
  gV ob rd ys=some dts->dT rd ys=true->xs.length=dts.length/\∀(j:Nat)(d:D),dts[j]?=some d->Rd w A' ((xs.map a.eval).getD j undef) d
 | [],[],dts,_,_,_,hd,_=>by simp[gV] at hd;subst hd;simp
 | [],_::_,_,h,_,_,_,_=>by simp[eK] at h
 | _::_,[],_,h,_,_,_,_=>by simp[eK] at h
 | x::xs,y::ys,dts,hx,hr,hg,hd,hgt=>by
  simp only[eK,Bool.and_eq_true] at hx;simp only[gV,Option.bind_eq_some_iff] at hd;obtain⟨d0,hd0,l,hl,hd⟩:=hd;injection hd with hd
  subst hd;simp only[dT,Bool.and_eq_true] at hgt;obtain⟨h1,h2⟩:=sL hx.2 (fun y hy=>hr y (by simp[hy])) (fun y hy=>hg y (by simp[hy])) hl hgt.2;have h3:=hg y (by simp) ((hr y (by simp) x hx.1).1 hgt.1) hd0;refine⟨by simp[h1],fun j d hj=>?_⟩;cases j with
  | zero=>simp at hj;subst hj;simpa using h3
  | succ j=>simpa using h2 j d (by simpa using hj)
theorem wL{f:FuncId}{xs:List Operand}{ts:Array TypeId}(ho:o.op=.call { callee:=.value (.func f),args:=xs.toArray,argTypes:=ts })(hb:ij P f=true) :
  (execOp a.eval o).run P w=.ok (.enter f (xs.map a.eval).toArray) w:=by
 unfold ij at hb;cases hf:P.funcs[f]? with
 | none=>simp[hf] at hb
 | some fn =>
  simp[hf] at hb;obtain⟨h1,h2⟩:=hb;cases hbody:fn.body with
  | none=>simp[hbody] at h1
  | some c=>simp[execOp,ho,resolve,Act.eval,Deferred.ofValue,invoke,callFunc,hf,h2,hbody]
theorem nG{R:Value->D->Prop}{v:Value}{d:D}{F:Nat->Prop}(h:an w A v d F):aK w A R v F (aV d)/\((aV d).isObj=false->aK w A R v (fun _=>False) (aV d)):=by
 have rd:∀{d:D},an w A v d F->(∀{A':Nat->Prop}{F':Nat->Prop},an w A v d F')->Rd w A v d:=fun _ h=>(h (A':=A) (F':=fun _=>False)).rd (fun _ h=>h) fun _ h=>h.elim
 cases h with
 | int h=>exact⟨.rd (.int h),fun _=>.rd (.int h)⟩
 | bool=>exact⟨.rd .bool,fun _=>.rd .bool⟩
 | str h=>exact⟨.rd (.str h),fun _=>.rd (.str h)⟩
 | nil=>exact⟨.nil,fun h=>by cases h⟩
 | bp=>exact⟨.rd .bp,fun _=>.rd .bp⟩
 | fn=>exact⟨.rd (.fn rfl (fun j x hx=>by simp at hx)),fun _=>.rd (.fn rfl (fun j x hx=>by simp at hx))⟩
 | @vw v d F h =>
  cases d
  case slice z l=>exact⟨Pl.rd h,fun _=>Pl.rd h⟩
  case ptr l=>exact⟨Pl.rd h,fun _=>Pl.rd h⟩
  case agg l=>exact⟨Pl.rd h,fun _=>Pl.rd h⟩
  case fn f l=>exact⟨Pl.rd h,fun _=>Pl.rd h⟩
  case mp ks vs=>exact⟨Pl.rd h,fun _=>Pl.rd h⟩
  case au l=>exact⟨Pl.rd h,fun _=>Pl.rd h⟩
  all_goals exact⟨Pl.dead,fun _=>Pl.dead⟩
 | dead=>exact⟨Pl.dead,fun _=>Pl.dead⟩
 | mp hF hb hE=>exact⟨.mp hF hb hE,fun h=>by cases h⟩
 | bO=>exact⟨.rd .bO,fun _=>.rd .bO⟩
 | bD h=>exact⟨Pl.rd (.bD h),fun _=>Pl.rd (.bD h)⟩
 | bj=>exact⟨.rd .bj,fun _=>.rd .bj⟩
 | bR hF hb hs=>exact⟨.bR hF hb hs,fun h=>by cases h⟩
 | slice Fs hb hroom hc hm hz hzz hsz hr hF hfs hdis=>exact⟨.slice Fs hb hroom hc hm hz hzz hsz hr hF hfs hdis,fun h=>by cases h⟩
 | agg Fs hs hr hfs hdis=>exact⟨.agg Fs hs hr hfs hdis,fun h=>by cases h⟩
 | au Fs hs hr hfs hdis=>exact⟨.au Fs hs hr hfs hdis,fun h=>by cases h⟩
 | ptr Fs hb hs hr hF hfs hdis=>exact⟨.ptr Fs hb hs hr hF hfs hdis,fun h=>by cases h⟩
theorem Dl{cx:Ctx}{fp:Nat->Nat->Prop}{G:Nat->Prop}{Q:Exit->Act->World->Prop}(h:Hp cx ct vl fp G w){f:FuncId}{xs:List X}(hk:aY P ds tr o (.call f xs)=true)
  (hx:∀y,y∈xs->∀x,aJ ds tr x y=true->ch w (aq cx fp G w) (aj w ct vl) (a.eval x) (rd y)) (hob:∀j,(ct j).isObj=true->ob j=ct j)
  {dts:List D} (hd:gV ob rd xs=some dts) (hgt:dT rd xs=true) {res:D} (hR:aC P f (dts.map .v) res) (hn:res.ba=true\/jL rd xs) (g:Option Bool) (hg:g≠some false) {cr:D} (hcr:wK g res cr) {K:Act->World->Prop}
  (hK:∀(v:Value)(w':World)(F:Nat->Prop),Ext w w'->(∀b,F b->w.heap.size<=b/\b<w'.heap.size)->aK w' (jG (aq cx fp G w) w w' F) (aj w ct vl) v F cr->(cr.isObj=false->∀b,¬F b)->K (a.put o.dst v) w') :
  o.wp P a w K Q:=by
 simp only[aY] at hk;split at hk<;>try(cases hk;done)
 rename_i f' as hop;obtain⟨ts,ho⟩:=yo hop;simp only[Bool.and_eq_true,beq_iff_eq] at hk;obtain⟨⟨rfl,hk1⟩,hk2⟩:=hk;have hlive:∀b,aq cx fp G w b->live w b:=fun b hb=>hb.1.1
 have hok:∀j,∃F,(∀b,F b->live w b)/\aK w (aq cx fp G w) (aj w ct vl) (vl j) F (ct j):=fun j=>⟨fp j,fun b hb=>(h.lt j b hb).1,h.ok j⟩
 obtain⟨A',hAg,hA',hAr,hAs⟩:∃A':Nat->Prop,eX w A'/\(∀b,A' b->live w b)/\((as.length=dts.length/\∀(j:Nat)(d:D),dts[j]?=some d->Rd w A' ((as.map a.eval).getD j undef) d))/\(res.ba=true\/∀b,A' b->aq cx fp G w b):=by
  rcases hn with hn | hn
  ·exact⟨live w,h.gl.mono hlive (fun _ _=>rfl),fun _ h=>h,sL hk1 hx (fun y _ v x hv hg=>MY hlive hob hok 4 hv hg) hd hgt,.inl hn⟩
  ·have hpl:∀y,y∈xs->(rd y).core.refs eP:=by
    clear hd hgt hx hk1;induction xs with
    | nil=>intro y hy;cases hy
    | cons z r ih =>
     intro y hy;rcases List.mem_cons.1 hy with rfl | hy
     ·exact hn.1
     ·exact ih hn.2 y hy
   exact⟨aq cx fp G w,h.gl,hlive,sL hk1 hx (fun y hy v x hv hg=>tu 4 hv (hpl y hy) hg) hd hgt,.inr fun _ h=>h⟩
 unfold Oper.wp;rw[wL ho hk2,Oper.upon_enter];refine(hR w A' _ (fun _ _=>False) hAg hA' (by simp[hAr.1]) (fun j x hj=>?_) (fun _ _ _ _ h=>h.elim) (fun _ _ h=>h.elim)).mono ?_
 ·rw[List.getElem?_map,Option.map_eq_some_iff] at hj
  obtain⟨d,hj,rfl⟩:=hj;refine⟨?_,fun _ h=>h⟩;have:=hAr.2 j d hj;simpa using this
 ·rintro e w' ⟨v,F,Fs',rfl,hsz,hown,hpost,hF,hFs',_,hsame,hos,htape,hout⟩
  have hFs0:∀j b,¬Fs' j b:=by
   intro j b hb;have hj:=(hFs' j b hb).2.2;rw[List.length_map] at hj;exact hpost j (.v dts[j]) (by rw[List.getElem?_map,List.getElem?_eq_getElem hj];rfl) b hb
  have hext:Ext w w':=⟨hsz,fun b hb=>hsame b hb (fun _ h=>h),hos,htape,hout⟩;have hFn:∀b,F b->w.heap.size<=b/\b<w'.heap.size:=fun b hb=>⟨(hF b hb).2.1.resolve_right fun⟨_,h⟩=>h,(hF b hb).1⟩
  have hown':an w' (jG (aq cx fp G w) w w' F) v res F:=by
   rcases hAs with hn | hn
   ·exact uq hown hn
   ·exact hown.mono (fun b hb=>hb.imp (hn b) fun hh=>⟨hh.1,hh.2.1,hh.2.2.1⟩) (fun _ _=>rfl) (fun _ _=>rfl) fun _ h=>h
  cases g with
  | none =>
   rcases hcr with rfl | rfl
   ·obtain⟨h1,h2⟩:=nG (R:=aj w ct vl) hown'
    by_cases ho:(aV res).isObj=true
    ·exact hK v w' F hext hFn h1 (fun hh=>by rw[ho] at hh;cases hh)
    ·have ho':(aV res).isObj=false:=by simpa using ho
     refine hK v w' (fun _=>False) hext (fun _ h=>h.elim) ?_ (fun _ _ h=>h);exact(h2 ho').mono (Q:=fun _=>True) (fun b hb=>hb.imp id fun hh=>⟨hh.1,hh.2.1,fun h=>h⟩) (fun _ _=>rfl) (fun _ _=>rfl) (fun _ h=>h) (bq (fun _=>trivial) _) fun v d _ hr=>hr
   ·have hrd:Rd w' (jG (aq cx fp G w) w w' fun _=>False) v res :=
     hown'.rd (fun b hb=>hb.imp id fun hh=>⟨hh.1,hh.2.1,fun h=>h⟩) fun b hb=>.inr ⟨(hFn b hb).1,(hFn b hb).2,fun h=>h⟩
    have ho':(aV (.vw res)).isObj=false:=by cases res<;>rfl
    exact hK v w' (fun _=>False) hext (fun _ h=>h.elim) ((nG (R:=aj w ct vl) (an.vw (F:=fun _=>False) hrd)).2 ho') (fun _ _ h=>h)
  | some b =>
   have hrd:Rd w' (jG (aq cx fp G w) w w' fun _=>False) v res :=
    hown'.rd (fun b hb=>hb.imp id fun hh=>⟨hh.1,hh.2.1,fun h=>h⟩) fun b hb=>.inr ⟨(hFn b hb).1,(hFn b hb).2,fun h=>h⟩
   rcases hcr with rfl | rfl
   ·exact hK v w' (fun _=>False) hext (fun _ h=>h.elim) ⟨fun _=>.rd hrd,fun hh=>by subst hh;exact absurd rfl hg⟩ (fun _ _ h=>h)
   ·exact hK v w' (fun _=>False) hext (fun _ h=>h.elim) ⟨fun _=>.rd (Tz hrd),fun hh=>by subst hh;exact absurd rfl hg⟩ (fun _ _ h=>h)
end
end Go.D3
namespace Go.D3
open Go
theorem ur:∀(l:List D)(i j:Nat)(x:D),nth (ej l i x) j=if j=i/\i<l.length then x else nth l j
 | [],i,j,x=>by simp[ej]
 | a::l,0,0,x=>by simp[ej,nth]
 | a::l,0,j+1,x=>by simp[ej,nth]
 | a::l,i+1,0,x=>by simp[ej,nth]
 | a::l,i+1,j+1,x=>by simp[ej,nth,ur l i j x]
theorem yb(q:D->Bool):∀(l:List D)(i:Nat),nth (eu q l) i=(nth l i).kill q
 | [],_=>rfl
 | _::_,0=>rfl
 | _::l,i+1=>yb q l i
theorem zS:∀(l:List D)(i:Nat)(x:D),(ej l i x).length=l.length
 | [],_,_=>rfl
 | _::_,0,_=>rfl
 | _::l,i+1,x=>by simp[ej,zS l i x]
theorem lj(q:D->Bool)(l:List D):(eu q l).length=l.length:=by simp[dV]
def St.wf(st:St):Prop:=st.tmp.length=st.n
def St.in(st:St)(k:Nat):Prop:=(k<1000/\k<st.env.length)\/(1000<=k/\k<1000+st.n)
theorem St.dy(st:St)(q:D->Bool):(st.kill q).cont=fun k=>(st.cont k).kill q:=by
 funext k;show(if k<1000 then nth (eu q st.env) k else if k<1000+st.n then nth (eu q st.tmp) (999+st.n-k) else D.dead)=(if k<1000 then nth st.env k else if k<1000+st.n then nth st.tmp (999+st.n-k) else D.dead).kill q;by_cases h:k<1000
 ·rw[if_pos h,if_pos h];exact yb q _ _
 ·rw[if_neg h,if_neg h]
  by_cases h':k<1000+st.n
  ·rw[if_pos h',if_pos h'];exact yb q _ _
  ·rw[if_neg h',if_neg h'];rfl
theorem St.jB{st:St}{i:Nat}(q:D->Bool)(h:st.cont i=.dead):(st.kill q).cont i=.dead:=by
 rw[St.dy];show(st.cont i).kill q=.dead;rw[h];rfl
theorem gj:∀(l:List D)(i:Nat),l.length<=i->nth l i=.dead
 | [],_,_=>rfl
 | a::l,0,h=>by simp at h
 | a::l,i+1,h=>gj l i (by simpa using h)
theorem St.cZ{st:St}{k:Nat}(hk:¬st.in k):st.cont k=.dead:=by
 simp only[St.in,not_or,not_and] at hk;simp only[St.cont];split
 ·rename_i h;exact gj _ _ (by have:=hk.1 h;omega)
 ·split
  ·rename_i h h';exact absurd h' (hk.2 (by omega))
  ·rfl
theorem St.eC{st:St}(hw:st.wf){k:Nat}(hk:st.in k)(c:D):(st.put k c).cont=ay st.cont k c:=by
 have hw':st.tmp.length=st.n:=hw;funext j;simp only[ay];rcases hk with⟨h1,h2⟩ | ⟨h1,h2⟩
 ·simp only[St.put,if_pos h1,St.cont]
  by_cases hj:j<1000
  ·simp only[if_pos hj,ur]
   by_cases hjk:j=k
   ·simp[hjk,h2]
   ·simp[hjk]
  ·simp only[if_neg hj]
   rw[if_neg (show ¬j=k by omega)]
 ·simp only[St.put,if_neg (show ¬k<1000 by omega),if_pos h2,St.cont]
  by_cases hj:j<1000
  ·simp only[if_pos hj]
   rw[if_neg (show ¬j=k by omega)]
  ·simp only[if_neg hj]
   by_cases hjn:j<1000+st.n
   ·simp only[if_pos hjn,ur]
    by_cases hjk:j=k
    ·subst hjk
     rw[if_pos ⟨rfl,by omega⟩,if_pos rfl]
    ·rw[if_neg (by omega),if_neg hjk]
   ·simp only[if_neg hjn]
    rw[if_neg (show ¬j=k by omega)]
theorem St.pa{st:St}{k:Nat}(hk:¬st.in k)(c:D):(st.put k c).cont=st.cont:=by
 simp only[St.in,not_or,not_and] at hk;funext j;simp only[St.put];split
 ·rename_i h
  simp only[St.cont];split
  ·rw[ur,if_neg]
   intro hh;exact absurd hh.2 (hk.1 h)
  ·rfl
 ·split
  ·rename_i h h';exact absurd h' (hk.2 (by omega))
  ·rfl
theorem St.dz{st:St}(hw:st.wf)(c:D):(st.push c).cont=ay st.cont (1000+st.n) c:=by
 have hw':st.tmp.length=st.n:=hw;funext j;show(if j<1000 then nth st.env j else if j<1000+(st.n+1) then nth (c::st.tmp) (999+(st.n+1)-j) else D.dead)=if j=1000+st.n then c else if j<1000 then nth st.env j else if j<1000+st.n then nth st.tmp (999+st.n-j) else D.dead
 by_cases hj:j<1000
 ·rw[if_pos hj,if_pos hj,if_neg (show ¬j=1000+st.n by omega)]
 ·rw[if_neg hj,if_neg hj]
  by_cases hjn:j=1000+st.n
  ·subst hjn
   rw[if_pos rfl,if_pos (by omega),show 999+(st.n+1)-(1000+st.n)=0 by omega];rfl
  ·rw[if_neg hjn]
   by_cases hlt:j<1000+st.n
   ·rw[if_pos hlt,if_pos (by omega),show 999+(st.n+1)-j=(999+st.n-j)+1 by omega];rfl
   ·rw[if_neg hlt,if_neg (by omega)]
theorem St.gr{st:St}(h:st.wf)(q:D->Bool):(st.kill q).wf:=by simpa[St.wf,St.kill,lj] using h
theorem St.eV{st:St}(h:st.wf)(k:Nat)(c:D):(st.put k c).wf:=by
 unfold St.put;split
 ·exact h
 ·split
  ·simpa[St.wf,zS] using h
  ·exact h
theorem St.fo{st:St}(h:st.wf)(c:D):(st.push c).wf:=by simpa[St.wf,St.push] using h
theorem St.fO(st:St)(k:Nat)(c:D):(st.put k c).n=st.n:=by by_cases h:k<1000<;>by_cases h':k<1000+st.n<;>simp[St.put,h,h']
section
variable{cx:Ctx}{vl:Nat->Value}{fp:Nat->Nat->Prop}{G:Nat->Prop}{w:World}{A:Nat->Prop}
theorem E8(q:D->Bool){c:D}{p:Path}(hp:c.eo p)(hne:p≠[]):(c.kill q).bm p=c.bm p/\(c.kill q).eo p:=by
 obtain⟨h1,h2⟩:=hp;refine⟨?_,(jC (w:=default) q c undef p h1).1,fun hl=>(pC q h1 hl).2 (h2 (pC q h1 hl).1)⟩;cases c<;>try exact h1.elim
 case o x=>rfl
 case row z l=>exact absurd h1 hne
 case box l =>
  cases p with
  | nil=>exact absurd rfl hne
  | cons s p =>
   obtain⟨i,off⟩:=s
   have key:∀y,l.getD off .dead=.o y->(D.kill q (.box l)).bm ((i,off)::p)=(D.box l).bm ((i,off)::p):=by
    intro y hy
    have e1:D.aZ (.box (eu q l)) i off=.o y:=by
     show(eu q l).getD off .dead=_;rw[tL,hy];rfl
    have e2:D.aZ (.box l) i off=.o y:=hy;simp only[D.bm,D.kill,D.at,e1,e2]
   cases p with
   | nil =>
    obtain⟨y,hy⟩:=xD (h2 rfl);exact key y hy
   | cons t p =>
    obtain⟨_,_,hp⟩:=h1;simp only at hp;split at hp
    ·rename_i y hy;exact key y hy
    ·exact hp.elim
def xJ(k:Nat)(p:Path)(q:D):Prop:=lN k p q\/(p≠[]/\bL k p q=false)
structure Tk(cx:Ctx)(w:World)(vl:Nat->Value)(st:St)(fp:Nat->Nat->Prop)(G:Nat->Prop)(st':St)(fp':Nat->Nat->Prop)(G':Nat->Prop)(F:Nat->Prop):Prop where
 hp:Hp cx st'.cont vl fp' G' w
 hF:∀b,F b->G' b/\¬G b
 hG:∀b,G b->G' b
 aO:∀b,aq cx fp G w b->aq cx fp' G' w b
 n:st'.n=st.n
 wf:st'.wf
 dd:∀j,st.cont j=.dead->st'.cont j=.dead
theorem df.trans{w1 w2 w3:World}{c1 c2 c3:Nat->D}{v1 v2 v3:Nat->Value}{q:D}(h:df w1 w2 c1 c2 v1 v2 q)(h':df w2 w3 c2 c3 v2 v3 q):df w1 w3 c1 c3 v1 v3 q:=by
 cases q<;>first | trivial | (intro hp;obtain⟨a,b⟩:=h hp;obtain⟨c,d⟩:=h' a;exact⟨c,d.trans b⟩)
theorem nW(ct:Nat->D)(q:D->Bool)(r:D):df w w ct (fun k=>(ct k).kill q) vl vl r:=by
 cases r<;>try trivial
 case sub k p=>exact fun hp=>⟨⟨(jC (w:=w) q (ct k) (vl k) p hp.1).1,fun hl=>(pC q hp.1 hl).2 (hp.2 (pC q hp.1 hl).1)⟩,(jC q (ct k) (vl k) p hp.1).2.1⟩
 case aw k p=>exact fun hp=>⟨(jC (w:=w) q (ct k) (vl k) p hp).1,(jC q (ct k) (vl k) p hp).2.2⟩
theorem L8{L:List D}{sz j:Nat}{x:D}(h:cellAt L sz j=some x):∃e∈L,x∈e.cells:=by
 unfold cellAt at h;cases hL:L[j / sz]? with
 | none=>rw[hL] at h;cases h
 | some d=>rw[hL,Option.bind_some] at h;exact⟨d,List.mem_of_getElem? hL,List.mem_of_getElem? h⟩
theorem Th{ct:Nat->D}{A:Nat->Prop}{v:Value}{c x:D}(h:Pl w A (aj w ct vl) v c)(hx:c.fE=some x):an w A v x fun _=>False:=by
 cases c<;>simp only[D.fE,reduceCtorEq,Option.some.injEq] at hx<;>subst hx
 case int=>obtain⟨rfl,h1⟩:=ey h;exact .int h1
 case bool=>have:=pl_bool h;subst this;exact .bool
 case str=>obtain⟨rfl,h1⟩:=gG h;exact .str h1
 case slice=>exact .vw (oq h)
 case ptr=>exact .vw (b6 h (by simp) (by simp) (by simp) (by simp) (by simp))
 case bp=>have:=b6 h (by simp) (by simp) (by simp) (by simp) (by simp);cases this;exact .bp
 case aB=>have:=b6 h (by simp) (by simp) (by simp) (by simp) (by simp);cases this;exact .nil
theorem Tg{e y:D}(h:e.fE=some y):e.cells=[e]/\y.cells=[y]:=by
 cases e<;>simp only[D.fE,reduceCtorEq,Option.some.injEq] at h<;>subst h<;>exact⟨rfl,rfl⟩
theorem GL{e y:D}(h:e.pP=some y):y.cells.length=e.cells.length/\∀(i:Nat)(d:D),y.cells[i]?=some d->∃c,e.cells[i]?=some c/\c.fE=some d:=by
 have hc:e.fE=some y->y.cells.length=e.cells.length/\∀(i:Nat)(d:D),y.cells[i]?=some d->∃c,e.cells[i]?=some c/\c.fE=some d:=fun hh=>by
  obtain⟨h1,h2⟩:=Tg hh;rw[h1,h2];refine⟨rfl,fun i d hd=>?_⟩;cases i with
  | zero=>simp only[List.getElem?_cons_zero,Option.some.injEq] at hd;subst hd;exact⟨e,rfl,hh⟩
  | succ i=>simp at hd
 cases e
 case agg l =>
  simp only[D.pP,Option.bind_eq_some_iff,Option.some.injEq] at h;obtain⟨l',h1,rfl⟩:=h;exact iT h1
 all_goals exact hc h
theorem WT{ct:Nat->D}{A:Nat->Prop}{v:Value}{F:Nat->Prop}{c x:D}(h:aK w A (aj w ct vl) v F c)(hx:c.ja=some x):an w A v x F:=by
 cases c<;>simp only[D.ja,reduceCtorEq,Option.some.injEq] at hx
 case o y=>subst hx;exact h
 case row z l =>
  rw[Option.bind_eq_some_iff] at hx;obtain⟨l',hm,hx⟩:=hx;injection hx with hx;subst hx
  obtain⟨hl,hg⟩:=iT hm;obtain⟨b,sz,cs,e,rfl,h2,h3,h4,h5,h6,h7,h8,h9⟩:=h;rw[<-hl] at h3 h4|-
  refine .slice (fun _ _=>False) h2 (by omega) (Nat.le_refl _) h4 h5 h6 (fun y hy=>?_) (fun j d hj=>?_) h9 (fun _ _ hh=>hh.elim) (fun _ _ _ _ hh=>hh.elim)
  ·obtain⟨i,hi⟩:=List.getElem?_of_mem hy
   obtain⟨e',he,ht⟩:=hg i y hi;rw[(GL ht).1];exact h7 e' (List.mem_of_getElem? he)
  ·unfold cellAt at hj
   cases hq:l'[j / sz]? with
   | none=>rw[hq] at hj;cases hj
   | some y =>
    rw[hq,Option.bind_some] at hj;obtain⟨e',he,ht⟩:=hg _ _ hq;obtain⟨c,hc,hp⟩:=(GL ht).2 _ _ hj;have hcell:cellAt l sz j=some c:=by unfold cellAt;rw[he,Option.bind_some];exact hc
    rw[Nat.zero_add];exact Th (h8 j c hcell).1 hp
theorem KQ{k:Nat}{p:Path}{K:D->St->Prop}{st:St}(hK:eI k p K st)(h:Hp cx st.cont vl fp G w)(hw:st.wf){v:Value}(hs:(st.cont k).eo p)(hv:aN w (vl k) (st.cont k) p=some v) :
  ∃x st' fp' G' F,K x st'/\Tk cx w vl st fp G st' fp' G' F/\an w (aq cx fp' G' w) v x F/\∀q,xJ k p q->df w w st.cont st'.cont vl vl q:=by
 have hin:st.in k:=by
  by_cases hin:st.in k
  ·exact hin
  ·rw[St.cZ hin] at hs;exact hs.1.elim
 cases p with
 | nil =>
  simp only[eI] at hK;have hkok:=h.ok k;cases hc:(st.cont k).ja with
  | none=>rw[hc] at hK;exact hK.elim
  | some x =>
   rw[hc] at hK;replace hkok:=WT hkok hc;simp only[cX] at hK;simp only[aN,Option.some.injEq] at hv;subst hv;have h1:=h.kill (aW k);have h2:=h1.drop k (fun j=>dq (fun d hd=>by cases d<;>simp_all[aW,cG]) (iR (aW k) (st.cont j))) (vl k);have ev:ay vl k (vl k)=vl:=by funext j;simp only[ay];split<;>simp_all
   rw[ev] at h2
   have ec:((st.kill (aW k)).put k .dead).cont=ay (fun j=>(st.cont j).kill (aW k)) k .dead:=by
    rw[St.eC (St.gr hw _) (by simpa[St.in,St.kill,lj] using hin),St.dy]
   rw[<-ec] at h2
   have aO:∀b,aq cx fp G w b->aq cx (ay fp k fun _=>False) (fun b=>G b\/fp k b) w b:=by
    rintro b ⟨h1,h2,h3⟩;refine⟨h1,fun hg=>hg.elim h2 (h3 k),fun j hj=>?_⟩;by_cases hjk:j=k
    ·subst hjk;rw[bc] at hj;exact hj
    ·rw[aG _ _ hjk] at hj;exact h3 j hj
   refine⟨x,_,_,_,fp k,hK,⟨h2,fun b hb=>⟨.inr hb,h.cK k b hb⟩,fun b hb=>.inl hb,aO,?_,St.eV (St.gr hw _) _ _,fun j hj=>by
    rw[ec];by_cases hjk:j=k
    ·subst hjk;exact bc _ _ _
    ·rw[aG _ _ hjk,hj];rfl⟩,an.mono hkok aO (fun _ _=>rfl) (fun _ _=>rfl) (fun _ h=>h),fun q hq=>?_⟩
   ·rw[St.fO];rfl
   ·rcases hq with hq | ⟨hq,_⟩
    ·refine(nW st.cont (aW k) q).trans ?_
     rw[ec];cases q<;>try trivial
     all_goals
      rename_i j r;intro hp;have hj:j≠k:=hq.resolve_right (by simp[apart]);simp only[aG _ _ hj];exact⟨hp,trivial⟩
    ·exact absurd rfl hq
 | cons s p =>
  simp only[eI] at hK;have hne:s::p≠[]:=by simp
  generalize hP:s::p=P at hK hne hs hv;obtain⟨kd,ks⟩:=E8 (bL k P) hs hne;have h1:=h.kill (bL k P);have hkv:=(jC (w:=w) (bL k P) (st.cont k) (vl k) P hs.1).2.1;obtain⟨u,F1,F2,g1,g2,g3,g4,g5,g6⟩:=h1.take ks hne (fun j=>iR (bL k P) (st.cont j));have hu:u=v:=by rw[hkv,hv] at g1;injection g1 with g1;exact g1.symm
  subst hu;rw[kd] at g2
  have ec:((st.kill (bL k P)).put k (((st.kill (bL k P)).cont k).hole P)).cont=ay (fun j=>(st.cont j).kill (bL k P)) k (((st.cont k).kill (bL k P)).setAt P (cW ((st.cont k).kill (bL k P)) P)):=by
   rw[St.eC (St.gr hw _) (by simpa[St.in,St.kill,lj] using hin),St.dy];rfl
  rw[<-ec] at g4 g6
  have aO:∀b,aq cx fp G w b->aq cx (ay fp k F2) (fun b=>G b\/F1 b) w b:=by
   rintro b ⟨h1,h2,h3⟩;refine⟨h1,fun hg=>hg.elim h2 fun hh=>h3 k (g3 b hh),fun j hj=>?_⟩;by_cases hjk:j=k
   ·subst hjk;rw[bc] at hj;exact h3 _ (g5 b hj)
   ·rw[aG _ _ hjk] at hj;exact h3 j hj
  refine⟨_,_,_,_,F1,hK,⟨g4,fun b hb=>⟨.inr hb,h.cK k b (g3 b hb)⟩,fun b hb=>.inl hb,aO,?_,St.eV (St.gr hw _) _ _,fun j hj=>by
   rw[ec];have hjk:j≠k:=by rintro rfl;rw[hj] at hs;exact hs.1.elim
   rw[aG _ _ hjk,hj];rfl⟩,an.mono g2 aO (fun _ _=>rfl) (fun _ _=>rfl) (fun _ h=>h),fun q hq=>?_⟩
  ·rw[St.fO];rfl
  ·refine(nW st.cont (bL k P) q).trans ?_
   rcases hq with hq | ⟨_,hq⟩
   ·rw[ec]
    have hko:=h1.ok k;cases q<;>try trivial
    case sub j r =>
     rintro⟨hp1,hp2⟩;by_cases hj:j=k
     ·subst hj
      simp only[bc];obtain⟨a1,a2,a3,a4⟩:=sI hko ks.1 hp1 (hq.resolve_left (by simp)) (rm ks.1 hne);exact⟨⟨a1,fun hl=>by rw[a3];rw[a2] at hl;exact hp2 hl⟩,(a4 w).1⟩
     ·simp only[aG _ _ hj]
      exact⟨⟨hp1,hp2⟩,trivial⟩
    case aw j r =>
     intro hp1;by_cases hj:j=k
     ·subst hj
      simp only[bc];obtain⟨a1,a2,a3,a4⟩:=sI hko ks.1 hp1 (hq.resolve_left (by simp)) (rm ks.1 hne);exact⟨a1,(a4 w).2⟩
     ·simp only[aG _ _ hj]
      exact⟨hp1,trivial⟩
   ·exact g6 q hq
theorem vy{k:Nat}{p:Path}{K:D->St->Prop}{st:St}(hK:eI k p K st)(h:Hp cx st.cont vl fp G w)(hw:st.wf){v:Value}(hr:aj w st.cont vl v (.sub k p)) :
  ∃x st' fp' G' F,K x st'/\Tk cx w vl st fp G st' fp' G' F/\an w (aq cx fp' G' w) v x F/\∀q,xJ k p q->df w w st.cont st'.cont vl vl q :=
 KQ hK h hw hr.1 hr.2.1
theorem Nf{c:D}{p:Path}(h:c.aX (p++[(0,0)])):c.eo p:=by
 cases c<;>try(exact h.elim)
 case o x=>exact⟨((ma x p _).1 h).1,fun hl=>by cases hl⟩
 case row z l=>cases p<;>cases h
 case box l =>
  match p,h with
  | [],_=>exact⟨trivial,fun hl=>by cases hl⟩
  | [(i,off)],h =>
   obtain⟨h1,h2,h3⟩:=h;refine⟨⟨h1,h2,trivial⟩,fun _=>?_⟩;show(l.getD off .dead).gY=true;revert h3;show(match l.getD off .dead with | .o y=>y.has [(0,0)] | _=>False)->_;cases l.getD off .dead<;>first | exact fun h=>h.elim | exact fun _=>rfl
  | (i,off)::s::r,h =>
   obtain⟨h1,h2,h3⟩:=h;refine⟨⟨h1,h2,?_⟩,fun hl=>by cases hl⟩;revert h3;show(match l.getD off .dead with | .o y=>y.has (s::(r++[(0,0)])) | _=>False)->(match l.getD off .dead with | .o y=>y.has (s::r) | _=>False);cases l.getD off .dead<;>first | exact fun h=>h.elim | skip
   rename_i y;exact fun h=>((ma y (s::r) [(0,0)]).1 h).1
theorem WM{k:Nat}{q:Path}{K:D->St->Prop}{st:St}(hz:mo q=true)(hK:eI k (jQ q) (fun d st=>d.tH=true/\K d st) st)(h:Hp cx st.cont vl fp G w)(hw:st.wf){v:Value}(hr:kM w st.cont vl v k q) :
  ∃x st' fp' G' F,K x st'/\Tk cx w vl st fp G st' fp' G' F/\an w (aq cx fp' G' w) v x F:=by
 rw[Fb hz] at hr;obtain⟨hc,a,ha,rfl⟩:=hr;rw[qt w (jQ q) [(0,0)] _ _ (by simp),Option.bind_eq_some_iff] at ha;obtain⟨u,hu,ha⟩:=ha;obtain⟨x,st',fp',G',F,⟨h1,h2⟩,h3,h4,_⟩:=KQ hK h hw (Nf hc) hu;refine⟨x,st',fp',G',F,h2,h3,?_⟩
 have key:u=.pointer (some a):=by
  have hub:∃b,u=.pointer (some ⟨b,0,none⟩):=by cases h4<;>first | exact⟨_,rfl⟩ | cases h1
  obtain⟨b,rfl⟩:=hub;have ha:er (.pointer (some ⟨b,0,none⟩)) ((st.cont k).at (jQ q)).un 0 0=some a:=ha;generalize((st.cont k).at (jQ q)).un=y at ha;cases y<;>simp only[er] at ha<;>first | (cases ha;rfl) | cases ha
 rw[<-key];exact h4
theorem Hg{ι:Type}{Q:ι->D->Prop}{r:D}(h:∀i,r.refs (Q i)):r.refs fun d=>∀i,Q i d:=by
 induction r using D.ind with
 | agg l ih | au l ih | box l ih | fn _ l ih=>exact bB.2 fun x hx=>ih x hx fun i=>bB.1 (h i) x hx
 | row z l _ ih=>exact bB.2 fun x hx=>ih x hx fun i=>bB.1 (h i) x hx
 | when g x ih=>exact ih h
 | sub k p=>exact h
 | aw k p=>exact h
 | pre k p n=>exact h
 | _=>trivial
theorem y8{T:D->D->Prop}{r:D}(x:D)(h:x.refs fun s=>r.refs (T s)):r.refs fun q=>x.refs fun s=>T s q:=by
 have list:∀l:List D,(∀y∈l,y.refs (fun s=>r.refs (T s))->r.refs fun q=>y.refs fun s=>T s q)->bK (fun s=>r.refs (T s)) l->r.refs fun q=>bK (fun s=>T s q) l:=by
  intro l ih h;have:=Hg (ι:={y // y∈l}) (Q:=fun i q=>i.1.refs fun s=>T s q) (r:=r) fun i=>ih i.1 i.2 (bB.1 h i.1 i.2)
  exact dq (fun d hd=>bB.2 fun y hy=>hd ⟨y,hy⟩) this
 induction x using D.ind with
 | agg l ih | au l ih | box l ih | fn _ l ih=>exact list l ih h
 | row z l _ ih=>exact list l ih h
 | when g x ih=>exact ih h
 | sub k p=>exact h
 | aw k p=>exact h
 | pre k p n=>exact h
 | _=>exact bq (fun _=>trivial) r
def kj(s q:D):Prop :=
 match s with
 | .sub k p=>xJ k p q
 | _=>True
theorem zG{r:List D}{s:D}(h:mS r s):(D.agg r).refs (kj s):=by
 cases s<;>first | exact bq (fun _=>trivial) _ | skip
 exact dq (fun d hd=>.inl hd) (show(D.agg r).refs _ from h)
theorem TI{Q Q':D->Prop}{r:D}(h:r.refs Q)(h':r.refs Q'):r.refs fun d=>Q d/\Q' d:=by
 have:=Hg (ι:=Bool) (Q:=fun i d=>match i with | true=>Q d | false=>Q' d) (r:=r) (fun i=>by cases i<;>assumption);exact dq (fun d hd=>⟨hd true,hd false⟩) this
theorem Pl.cz{ct ct':Nat->D}{vl vl':Nat->Value}{A':Nat->Prop}{w':World}{v:Value}{d:D}(h:Pl w A (aj w ct vl) v d)(hA:∀b,A b->A' b)(hw:∀b,A b->w'.heap[b]?=w.heap[b]?)(hk:d.refs (df w w' ct ct' vl vl')):Pl w' A' (aj w' ct' vl') v d :=
 h.mono (Q:=df w w' ct ct' vl vl') hA hw hk fun _ _ hq hr=>hr.cz hq
theorem Tk.refl{st:St}(h:Hp cx st.cont vl fp G w)(hw:st.wf):Tk cx w vl st fp G st fp G fun _=>False :=
 ⟨h,fun _ h=>h.elim,fun _ h=>h,fun _ h=>h,rfl,hw,fun _ h=>h⟩
theorem Tk.trans{st1 st2 st3:St}{fp1 fp2 fp3:Nat->Nat->Prop}{G1 G2 G3 F F':Nat->Prop}(h:Tk cx w vl st1 fp1 G1 st2 fp2 G2 F)(h':Tk cx w vl st2 fp2 G2 st3 fp3 G3 F'):Tk cx w vl st1 fp1 G1 st3 fp3 G3 fun b=>F b\/F' b :=
 ⟨h'.hp,fun b hb=>hb.elim (fun hb=>⟨h'.hG b (h.hF b hb).1,(h.hF b hb).2⟩) fun hb=>⟨(h'.hF b hb).1,fun hg=>(h'.hF b hb).2 (h.hG b hg)⟩,fun b hb=>h'.hG b (h.hG b hb),fun b hb=>h'.aO b (h.aO b hb),h'.n.trans h.n,h'.wf,fun j hj=>h'.dd j (h.dd j hj)⟩
mutual
theorem sC:∀(d:D){K:D->St->Prop}{st:St}{fp:Nat->Nat->Prop}{G:Nat->Prop}{v:Value},aD d K st->Hp cx st.cont vl fp G w->st.wf->(∀b,A b->aq cx fp G w b)->Pl w A (aj w st.cont vl) v d ->
  ∃x st' fp' G' F,K x st'/\Tk cx w vl st fp G st' fp' G' F/\an w (aq cx fp' G' w) v x F/\(x.isAgg=false->v.oneCell'=true)/\(x.isAgg=d.isAgg/\x.cells.length=d.cells.length)/\∀q,d.refs (fun s=>kj s q)->df w w st.cont st'.cont vl vl q
 | d,K,st,fp,G,v,hK,h,hw,hA,hv=>by
  have hkeep:∀q,df w w st.cont st.cont vl vl q:=fun q=>by cases q<;>first | trivial | exact fun hp=>⟨hp,rfl⟩
  have leaf:∀x,K x st->an w (aq cx fp G w) v x (fun _=>False)->(x.isAgg=false->v.oneCell'=true)->(x.isAgg=d.isAgg/\x.cells.length=d.cells.length)->∃x st' fp' G' F,K x st'/\Tk cx w vl st fp G st' fp' G' F/\an w (aq cx fp' G' w) v x F/\(x.isAgg=false->v.oneCell'=true)/\(x.isAgg=d.isAgg/\x.cells.length=d.cells.length)/\∀q,d.refs (fun s=>kj s q)->df w w st.cont st'.cont vl vl q :=
   fun x hx ho h1 h2=>⟨x,st,fp,G,_,hx,.refl h hw,ho,h1,h2,fun q _=>hkeep q⟩
  match d,hK,hv,leaf with
  | .int k n,hK,hv,leaf =>
   obtain⟨rfl,h1⟩:=ey hv;exact leaf _ (by simpa only[aD] using hK) (.int h1) (fun _=>rfl) ⟨rfl,rfl⟩
  | .bool b,hK,hv,leaf =>
   have:=pl_bool hv;subst this;exact leaf _ (by simpa only[aD] using hK) .bool (fun _=>rfl) ⟨rfl,rfl⟩
  | .str s,hK,hv,leaf =>
   obtain⟨rfl,h1⟩:=gG hv;exact leaf _ (by simpa only[aD] using hK) (.str h1) (fun _=>rfl) ⟨rfl,rfl⟩
  | .bp,hK,hv,leaf =>
   have:=b6 hv (by simp) (by simp) (by simp) (by simp) (by simp);cases this;exact leaf _ (by simpa only[aD] using hK) .bp (fun _=>rfl) ⟨rfl,rfl⟩
  | .fn f [],hK,hv,leaf =>
   obtain⟨cs,rfl,hs,_⟩:=mJ hv;have:cs=#[]:=by simpa using hs
   subst this;exact leaf _ (by simpa only[aD] using hK) .fn (fun _=>rfl) ⟨rfl,rfl⟩
  | .sub k p,hK,hv,leaf =>
   simp only[aD] at hK;obtain⟨x,st',fp',G',F,h1,h2,h3,h4⟩:=vy hK h hw (dW hv);obtain⟨_,_,⟨_,_,_,rfl⟩ | ⟨_,rfl⟩⟩:=dW hv
   ·have hag:x.isAgg=false:=by cases h3<;>rfl
    exact⟨x,st',fp',G',F,h1,h2,h3,fun _=>rfl,⟨hag,by rw[D.cells_one hag];rfl⟩,fun q hq=>h4 q hq⟩
   ·have hag:x.isAgg=false:=by cases h3<;>rfl
    exact⟨x,st',fp',G',F,h1,h2,h3,fun _=>rfl,⟨hag,by rw[D.cells_one hag];rfl⟩,fun q hq=>h4 q hq⟩
  | .slice z l,hK,hv,leaf =>
   have:=oq hv;exact leaf _ (by simpa only[aD] using hK) (.vw (this.mono hA fun _ _=>rfl)) (fun _=>by cases this<;>rfl) ⟨rfl,rfl⟩
  | .ptr l,hK,hv,leaf =>
   have:=b6 hv (by simp) (by simp) (by simp) (by simp) (by simp);exact leaf _ (by simpa only[aD] using hK) (.vw (this.mono hA fun _ _=>rfl)) (fun _=>by cases this<;>rfl) ⟨rfl,rfl⟩
  | .aB z,hK,hv,leaf =>
   have:=b6 hv (by simp) (by simp) (by simp) (by simp) (by simp);cases this;exact leaf _ (by simpa only[aD] using hK) .nil (fun _=>rfl) ⟨rfl,rfl⟩
  | .bO,hK,hv,leaf =>
   have:=b6 hv (by simp) (by simp) (by simp) (by simp) (by simp);cases this;exact leaf _ (by simpa only[aD] using hK) .bO (fun _=>rfl) ⟨rfl,rfl⟩
  | .bj,hK,hv,leaf =>
   have:=b6 hv (by simp) (by simp) (by simp) (by simp) (by simp);cases this;exact leaf _ (by simpa only[aD] using hK) .bj (fun _=>rfl) ⟨rfl,rfl⟩
  | .bD t x,hK,hv,leaf =>
   have:=b6 hv (by simp) (by simp) (by simp) (by simp) (by simp);cases this with
   | bD h=>exact leaf _ (by simpa only[aD] using hK) (.bD (h.mono hA fun _ _=>rfl)) (fun _=>rfl) ⟨rfl,rfl⟩
  | .mp _ _,hK,_,_=>simp only[aD] at hK
  | .bR _ _,hK,_,_=>simp only[aD] at hK
  | .eF _,hK,_,_=>simp only[aD] at hK
  | .agg l,hK,hv,leaf =>
   simp only[aD] at hK;obtain⟨cs,rfl,hs,hc⟩:=lA hv;obtain⟨l',st',fp',G',Fs,h1,h2,h3,h4,h5,h6⟩:=je l hK h hw hA hc;exact⟨_,st',fp',G',_,h1,h2,.agg Fs (by rw[hs,h3]) (fun j x hx=>(h4 j x hx).1) (fun j c hc=>⟨j,hc⟩) h5,(fun h=>by simp[D.isAgg] at h),⟨rfl,h3⟩,h6⟩
  | .fn f (c::r),hK,hv,leaf =>
   simp only[aD] at hK;have:=sN hv hK.1;exact leaf _ hK.2 (.vw (this.mono hA fun _ _=>rfl)) (fun _=>by cases this;rfl) ⟨rfl,rfl⟩
  | .au _,hK,_,_=>simp only[aD] at hK
  | .vw _,hK,_,_=>simp only[aD] at hK
  | .o _,hK,_,_=>simp only[aD] at hK
  | .box _,hK,_,_=>simp only[aD] at hK
  | .row _ _,hK,_,_=>simp only[aD] at hK
  | .aw _ _,hK,_,_=>simp only[aD] at hK
  | .pre _ _ _,hK,_,_=>simp only[aD] at hK
  | .when _ _,hK,_,_=>simp only[aD] at hK
  | .dead,hK,_,_=>simp only[aD] at hK
theorem je:∀(l:List D){K:List D->St->Prop}{st:St}{fp:Nat->Nat->Prop}{G:Nat->Prop}{vs:Array Value},cV l K st->Hp cx st.cont vl fp G w->st.wf->(∀b,A b->aq cx fp G w b) ->
  (∀(j:Nat)(x:D),l[j]?=some x->Pl w A (aj w st.cont vl) (vs.getD j undef) x) ->
  ∃(l':List D)(st':St)(fp':Nat->Nat->Prop)(G':Nat->Prop)(Fs:Nat->Nat->Prop),K l' st'/\Tk cx w vl st fp G st' fp' G' (fun b=>∃j,Fs j b)/\l'.length=l.length/\(∀(j:Nat)(x:D),l'[j]?=some x->an w (aq cx fp' G' w) (vs.getD j undef) x (Fs j)/\(x.isAgg=false->(vs.getD j undef).oneCell'=true)/\∃d,l[j]?=some d/\x.isAgg=d.isAgg/\x.cells.length=d.cells.length)/\(∀i j b,i≠j->Fs i b->¬Fs j b) /\
   ∀q,bK (fun s=>kj s q) l->df w w st.cont st'.cont vl vl q
 | [],K,st,fp,G,vs,hK,h,hw,hA,hv=>by
  simp only[cV] at hK;have hkeep:∀q,df w w st.cont st.cont vl vl q:=fun q=>by cases q<;>first | trivial | exact fun hp=>⟨hp,rfl⟩
  exact⟨[],st,fp,G,fun _ _=>False,hK,⟨h,fun _ ⟨_,h⟩=>h.elim,fun _ h=>h,fun _ h=>h,rfl,hw,fun _ h=>h⟩,rfl,fun j x hx=>by simp at hx,fun _ _ _ _ h=>h.elim,fun q _=>hkeep q⟩
 | y::r,K,st,fp,G,vs,hK,h,hw,hA,hv=>by
  simp only[cV] at hK;obtain⟨hsafe,hK⟩:=hK;obtain⟨x,st1,fp1,G1,F1,h1,h2,h3,h3',h3'',h4⟩:=sC y hK h hw hA (hv 0 y rfl);have hkr:=y8 y (dq (fun s hs=>zG hs) hsafe)
  have hrest:∀(j:Nat)(x:D),r[j]?=some x->Pl w A (aj w st1.cont vl) ((vs.extract 1 vs.size).getD j undef) x:=by
   intro j x hx;have h5:=hv (j+1) x (by simpa using hx)
   have e:(vs.extract 1 vs.size).getD j undef=vs.getD (j+1) undef:=by
    simp only[Array.getD_eq_getD_getElem?,Array.getElem?_extract];by_cases hj:j<min vs.size vs.size-1
    ·rw[if_pos hj,Nat.add_comm]
    ·rw[if_neg hj,Array.getElem?_eq_none (by omega)]
   rw[e];exact h5.cz (fun _ h=>h) (fun _ _=>rfl) (dq (fun q hq=>h4 q hq) (bB.1 hkr x (List.mem_of_getElem? hx)))
  obtain⟨l',st',fp',G',Fs,k1,k2,k3,k4,k5,k6⟩:=je r h1 h2.hp h2.wf (fun b hb=>h2.aO b (hA b hb)) hrest;have htk:=h2.trans k2;refine⟨x::l',st',fp',G',fun j=>match j with | 0=>F1 | j+1=>Fs j,k1,⟨htk.hp,fun b ⟨j,hj⟩=>htk.hF b ?_,htk.hG,htk.aO,htk.n,htk.wf,htk.dd⟩,by simp[k3],fun j x' hx'=>?_,fun i j b hij hi hj=>?_,fun q hq=>?_⟩
  ·cases j with
   | zero=>exact .inl hj
   | succ j=>exact .inr ⟨j,hj⟩
  ·cases j with
   | zero=>simp at hx';subst hx';exact⟨h3.mono k2.aO (fun _ _=>rfl) (fun _ _=>rfl) fun _ h=>h,h3',y,rfl,h3''⟩
   | succ j =>
    have:=k4 j x' (by simpa using hx')
    have e:(vs.extract 1 vs.size).getD j undef=vs.getD (j+1) undef:=by
     simp only[Array.getD_eq_getD_getElem?,Array.getElem?_extract];by_cases hj:j<min vs.size vs.size-1
     ·rw[if_pos hj,Nat.add_comm]
     ·rw[if_neg hj,Array.getElem?_eq_none (by omega)]
    rw[e] at this;exact this
  ·cases i with
   | zero=>cases j with
    | zero=>exact hij rfl
    | succ j=>exact(k2.hF b ⟨j,hj⟩).2 (h2.hF b hi).1
   | succ i=>cases j with
    | zero=>exact(k2.hF b ⟨i,hi⟩).2 (h2.hF b hj).1
    | succ j=>exact k5 i j b (by omega) hi hj
  ·exact(h4 q hq.1).trans (k6 q hq.2)
end
end
end Go.D3
