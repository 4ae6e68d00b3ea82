/- WHAT IS LEFT WHEN SIZES OF ARGUMENTS HAVE BEEN TAKEN OFF; calls with pointers to the first part of a struct. -/
import Derived.Test.YtaknpcdnmecblaaHG
namespace Go.D3
open Go
theorem Ig{α:Type}{f:α->D}{d:α}{l:List α}{k:Nat}{p:Path}:pr k p (ak f d l)=ak f d l:=rfl
theorem IT{α:Type}{f:α->D}{d:α}{l:List α}{i o:Nat}{y:D}:(ak f d l).eS i o y=.slice (f d) ((l.map f).set i (dC (f (l.getD i d)) o y)):=BK
attribute [go_sem] Ig IT
theorem IW{α:Type}{f:α->D}{d:α}{l:List α}{dn r:List D}{K:List D->St->Prop}{st:St}:eE dn (ak f d l::r) K st=eE (dn++[ak f d l]) r K st:=by
 have:eE dn (ak f d l::r) K st=((ak f d l).pc=true/\eE (dn++[ak f d l]) r K st):=rfl;rw[this,BJ];simp
attribute [go_sem ↓] IW
def y9(a d:D):Prop:=a=d\/∃n l,d=.ptr l/\a=.ptr (l.take n)
def qJ:List D->List D->Prop
 | [],[]=>True
 | a::xs,d::ds=>y9 a d/\qJ xs ds
 | _,_=>False
theorem Rd.wk{w:World}{A:Nat->Prop}{v:Value}{a d:D}(h:Rd w A v d)(hw:y9 a d):Rd w A v a:=by
 rcases hw with rfl | ⟨n,l,rfl,rfl⟩
 ·exact h
 ·cases h with
  | ptr hA vs hc hr =>
   have key:∀(j:Nat)(x:D),(l.take n)[j]?=some x->l[j]?=some x:=fun j x hx=>by
    rw[List.getElem?_take] at hx;split at hx
    ·exact hx
    ·cases hx
   exact .ptr hA vs (fun j x hx=>hc j x (key j x hx)) fun j x hx=>hr j x (key j x hx)
theorem Fv:∀{xs ds:List D},qJ xs ds->xs.length=ds.length
 | [],[],_=>rfl
 | _::_,_::_,h=>by simp only[List.length_cons,Fv h.2]
 | [],_::_,h=>h.elim
 | _::_,[],h=>h.elim
theorem Fu:∀{xs ds:List D},qJ xs ds->∀{j:Nat}{a:D},xs[j]?=some a->∃d,ds[j]?=some d/\y9 a d
 | [],_,_,j,a,hj=>by simp at hj
 | x::r,y::s,h,0,a,hj=>by
  simp only[List.getElem?_cons_zero,Option.some.injEq] at hj;exact⟨y,rfl,hj▸h.1⟩
 | x::r,y::s,h,j+1,a,hj=>by
  simp only[List.getElem?_cons_succ] at hj|-
  exact Fu h.2 hj
 | _::_,[],h,_,_,_=>h.elim
theorem Nx[Mode]{P:Program}{f:FuncId}{xs ds:List D}{res:D}(h:aD P f (xs.map .v) res)(hw:qJ xs ds):aD P f (ds.map .v) res:=by
 intro w A vs Fs h0 h1 h2 h3 h4 h5;have hl:=Fv hw;refine(h w A vs Fs h0 h1 (by rw[h2];simp[hl]) (fun j a hj=>?_) h4 fun j b hb=>⟨(h5 j b hb).1,(h5 j b hb).2.1,by simpa[hl] using(h5 j b hb).2.2⟩).mono ?_
 ·rw[List.getElem?_map,Option.map_eq_some_iff] at hj
  obtain⟨x,hx,rfl⟩:=hj;obtain⟨d,hd,hwd⟩:=Fu hw hx;have:=h3 j (.v d) (by rw[List.getElem?_map,hd];rfl);exact⟨this.1.wk hwd,this.2⟩
 ·rintro e w' ⟨v,F,Fs',e1,e2,e3,e4,e5,e6,e7⟩
  refine⟨v,F,Fs',e1,e2,e3,fun j a hj=>?_,e5,fun j b hb=>⟨(e6 j b hb).1,(e6 j b hb).2.1,by simpa[hl] using(e6 j b hb).2.2⟩,e7⟩;rw[List.getElem?_map,Option.map_eq_some_iff] at hj;obtain⟨d,hd,rfl⟩:=hj;have hj2:j<xs.length:=by rw[hl];exact(List.getElem?_eq_some_iff.1 hd).1
  exact e4 j (.v xs[j]) (by rw[List.getElem?_map,List.getElem?_eq_getElem hj2];rfl)
theorem l8[Mode]{P:Program}{f:FuncId}{pl:Prop}{K:St->Prop}{st:St}{xs:List Arg}{bs ds:List D}{res:D}(hR:aD P f xs res)(ha:xs=bs.map .v)(hw:qJ bs ds)(hn:res.bp=true\/pl)(hK:K (st.push (aJ res))):@nH _ P f (some ds) true pl none ⟨K⟩ st :=
 aC (Nx (ha▸hR) hw) rfl hn hK
end Go.D3
