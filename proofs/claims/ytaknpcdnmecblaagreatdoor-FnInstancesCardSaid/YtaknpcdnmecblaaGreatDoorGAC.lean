/- PLAIN LAWS: texts that are split at a separator. -/
import Derived.Test.YtaknpcdnmecblaaGreatDoorHG
import Derived.Shelf.SlLaysF
import Derived.Test.YtaknpcdnmecblaaGreatDoorProg
import Derived.Lib.SplitLaws
import Derived.Lib.Join
namespace Go.D3
open Go
def nR(n:Int):UInt8:=UInt8.ofNat n.toNat
def zB(l:List Int):List UInt8:=l.map nR++[255]
def tB(l:List (List Int)):List UInt8:=l.flatMap zB
def oU(l:List Int):Prop:=∀x∈l,0<=x/\x<255
theorem E4{a b:Int}(I : 0<=a/\a<255)(S : 0<=b/\b<255)(h:nR a=nR b):a=b:=by
 have:=congrArg UInt8.toNat h;simp only[nR,UInt8.toNat_ofNat'] at this;omega
theorem HB:∀{a b:List Int},oU a->oU b->a.map nR=b.map nR->a=b
 | [],[],_,_,_=>rfl
 | [],_::_,_,_,h=>by cases h
 | _::_,[],_,_,h=>by cases h
 | x::a,y::b,S,V,h=>by
  simp only[List.map_cons,List.cons.injEq] at h;rw[E4 (S x List.mem_cons_self) (V y List.mem_cons_self) h.1,HB (fun z I=>S z (List.mem_cons_of_mem _ I)) (fun z I=>V z (List.mem_cons_of_mem _ I)) h.2]
def nq(ks:Nat->List UInt8)(n:Nat):List (List UInt8×Int):=(List.range n).map fun j=>(ks j,(j:Int))
theorem WL{ks:Nat->List UInt8}{n:Nat}:(nq ks n).length=n:=by simp[nq]
theorem WM{ks:Nat->List UInt8}{n:Nat}(h:∀j,j<n->ks j≠ks n):gW (nq ks n) (ks n) (n:Int)=nq ks (n+1):=by
 have:eA (nq ks n) (ks n)=none:=by
  unfold eA;rw[List.findIdx?_eq_none_iff];intro e he;obtain⟨j,I,rfl⟩:=List.mem_map.1 he;have:=h j (List.mem_range.1 I);simp only[beq_eq_false_iff_ne,ne_eq];exact fun e=>this e.symm
 unfold gW;rw[this];simp only;unfold nq;rw[List.range_succ,List.map_append];rfl
theorem WK{ks:Nat->List UInt8}{n i:Nat}(hi:i<n)(h:∀j,j<n->ks j=ks i->j=i)(z:Int):jV (nq ks n) (ks i) z=i:=by
 unfold jV;cases hf:(nq ks n).find? fun e=>ks i == e.1 with
 | none =>
  rw[List.find?_eq_none] at hf;exact absurd (by simp) (hf (ks i,(i:Int)) (List.mem_map.2 ⟨i,List.mem_range.2 hi,rfl⟩))
 | some e =>
  have h1:=List.find?_some hf;have I:=List.mem_of_find?_eq_some hf;obtain⟨j,S,rfl⟩:=List.mem_map.1 I;have:j=i:=h j (List.mem_range.1 S) (by have:=h1;simp only[beq_iff_eq] at this;exact this.symm);subst this;rfl
end Go.D3
namespace Go.Proofs
open Go.Shelf
def Tryz.aas:Go.Shelf.Ren:=⟨fun | 6=>231 | 15=>262 | 14=>261 | 28=>284 | 29=>285 | 20=>276 | 21=>277 | 22=>278 | 23=>279 | 24=>280 | 25=>281 | 26=>282 | 27=>283 | 46=>295 | 47=>296 | 48=>297 | 49=>298 | 50=>299 | 57=>304 | n=>n,fun | 22=>24 | 24=>2 | 25=>305 | 3=>3 | 39=>225 | 0=>0 | 53=>364 | 55=>139 | 4=>4 | 46=>357 | 45=>356 | 50=>361 | 5=>5 | 9=>9 | 66=>370 | 70=>374 | 76=>382 | 77=>383 | n=>n,fun | n=>n⟩
theorem Tryz.aar:Go.Proofs.SlLaysF.n6 Tryz.prog Tryz.aas:={
 mixed:=by kernel_rfl
 f6:=⟨Tryz.f231.name,by decide,Tryz.func231.trans (congrArg some (by kernel_rfl))⟩
 f14:=⟨Tryz.f261.name,by decide,Tryz.func261.trans (congrArg some (by kernel_rfl))⟩
 f15:=Tryz.func262.trans (congrArg some (by kernel_rfl))
 f20:=⟨Tryz.f276.name,by decide,Tryz.func276.trans (congrArg some (by kernel_rfl))⟩
 f21:=⟨Tryz.f277.name,by decide,Tryz.func277.trans (congrArg some (by kernel_rfl))⟩
 f22:=⟨Tryz.f278.name,by decide,Tryz.func278.trans (congrArg some (by kernel_rfl))⟩
 f23:=⟨Tryz.f279.name,by decide,Tryz.func279.trans (congrArg some (by kernel_rfl))⟩
 f24:=⟨Tryz.f280.name,by decide,Tryz.func280.trans (congrArg some (by kernel_rfl))⟩
 f25:=⟨Tryz.f281.name,by decide,Tryz.func281.trans (congrArg some (by kernel_rfl))⟩
 f26:=⟨Tryz.f282.name,by decide,Tryz.func282.trans (congrArg some (by kernel_rfl))⟩
 f27:=⟨Tryz.f283.name,by decide,Tryz.func283.trans (congrArg some (by kernel_rfl))⟩
 f28:=Tryz.func284.trans (congrArg some (by kernel_rfl))
 f29:=Tryz.func285.trans (congrArg some (by kernel_rfl))
 f46:=⟨Tryz.f295.name,by decide,Tryz.func295.trans (congrArg some (by kernel_rfl))⟩
 f47:=Tryz.func296.trans (congrArg some (by kernel_rfl))
 f48:=Tryz.func297.trans (congrArg some (by kernel_rfl))
 f49:=⟨Tryz.f298.name,by decide,Tryz.func298.trans (congrArg some (by kernel_rfl))⟩
 f50:=⟨Tryz.f299.name,by decide,Tryz.func299.trans (congrArg some (by kernel_rfl))⟩
 f57:=⟨Tryz.f304.name,by decide,Tryz.func304.trans (congrArg some (by kernel_rfl))⟩
 t0:=Tryz.underlying0
 a0:=Tryz.isAgg0
 z0:=Tryz.sizeOf0
 v0:=Tryz.zeroValue0
 t3:=Tryz.underlying3
 a3:=Tryz.isAgg3
 z3:=Tryz.sizeOf3
 v3:=Tryz.zeroValue3
 t4:=Tryz.underlying4
 a4:=Tryz.isAgg4
 z4:=Tryz.sizeOf4
 v4:=Tryz.zeroValue4
 t5:=Tryz.underlying5
 a5:=Tryz.isAgg5
 z5:=Tryz.sizeOf5
 v5:=Tryz.zeroValue5
 t9:=Tryz.underlying9
 a9:=Tryz.isAgg9
 z9:=Tryz.sizeOf9
 v9:=Tryz.zeroValue9
 t22:=Tryz.underlying24
 a22:=Tryz.isAgg24
 z22:=Tryz.sizeOf24
 v22:=Tryz.zeroValue24
 a24:=Tryz.isAgg2
 z24:=Tryz.sizeOf2
 t25:=Tryz.underlying305
 a25:=Tryz.isAgg305
 z25:=Tryz.sizeOf305
 v25:=Tryz.zeroValue305
 t39:=Tryz.underlying225
 a39:=Tryz.isAgg225
 z39:=Tryz.sizeOf225
 v39:=Tryz.zeroValue225
 t45:=Tryz.underlying356
 a45:=Tryz.isAgg356
 z45:=Tryz.sizeOf356
 v45:=Tryz.zeroValue356
 t46:=Tryz.underlying357
 a46:=Tryz.isAgg357
 z46:=Tryz.sizeOf357
 v46:=Tryz.zeroValue357
 t50:=Tryz.underlying361
 a50:=Tryz.isAgg361
 z50:=Tryz.sizeOf361
 v50:=Tryz.zeroValue361
 t53:=Tryz.underlying364
 a53:=Tryz.isAgg364
 z53:=Tryz.sizeOf364
 v53:=Tryz.zeroValue364
 t55:=Tryz.underlying139
 a55:=Tryz.isAgg139
 z55:=Tryz.sizeOf139
 v55:=Tryz.zeroValue139
 t66:=Tryz.underlying370
 a66:=Tryz.isAgg370
 z66:=Tryz.sizeOf370
 v66:=Tryz.zeroValue370
 t70:=Tryz.underlying374
 a70:=Tryz.isAgg374
 z70:=Tryz.sizeOf374
 v70:=Tryz.zeroValue374
 t76:=Tryz.underlying382
 a76:=Tryz.isAgg382
 z76:=Tryz.sizeOf382
 v76:=Tryz.zeroValue382
 t77:=Tryz.underlying383
 a77:=Tryz.isAgg383
 z77:=Tryz.sizeOf383
 v77:=Tryz.zeroValue383 }
end Go.Proofs
namespace Go.D3
open Go
theorem RA{α:Type}{f:α->D}{d:α}{l:List α}{k:Nat}{p:Path}:pt k p (ae f d l)=ae f d l:=rfl
theorem Sp{α:Type}{f:α->D}{d:α}{l:List α}{i o:Nat}{y:D}:(ae f d l).fw i o y=.slice (f d) ((l.map f).set i (dM (f (l.getD i d)) o y)):=Hx
attribute [go_sem] RA Sp
theorem Ss{α:Type}{f:α->D}{d:α}{l:List α}{I r:List D}{K:List D->St->Prop}{st:St}:ga I (ae f d l::r) K st=ga (I++[ae f d l]) r K st:=by
 have:ga I (ae f d l::r) K st=((ae f d l).pc=true/\ga (I++[ae f d l]) r K st):=rfl;rw[this,Hw];simp
attribute [go_sem ↓] Ss
def Ee(a d:D):Prop:=a=d\/∃n l,d=.ptr l/\a=.ptr (l.take n)
def sG:List D->List D->Prop
 | [],[]=>True
 | a::xs,d::ds=>Ee a d/\sG xs ds
 | _,_=>False
theorem Rd.wk{w:World}{A:Nat->Prop}{v:Value}{a d:D}(h:Rd w A v d)(hw:Ee a d):Rd w A v a:=by
 rcases hw with rfl | ⟨n,l,rfl,rfl⟩
 ·exact h
 ·cases h with
  | ptr hA vs S V =>
   have key:∀(j:Nat)(x:D),(l.take n)[j]?=some x->l[j]?=some x:=fun j x I=>by
    rw[List.getElem?_take] at I;split at I
    ·exact I
    ·cases I
   exact .ptr hA vs (fun j x I=>S j x (key j x I)) fun j x I=>V j x (key j x I)
theorem Nl:∀{xs ds:List D},sG xs ds->xs.length=ds.length
 | [],[],_=>rfl
 | _::_,_::_,h=>by simp only[List.length_cons,Nl h.2]
 | [],_::_,h=>h.elim
 | _::_,[],h=>h.elim
theorem Nk:∀{xs ds:List D},sG xs ds->∀{j:Nat}{a:D},xs[j]?=some a->∃d,ds[j]?=some d/\Ee a d
 | [],_,_,j,a,hj=>by simp at hj
 | x::r,y::s,h,0,a,hj=>by
  simp only[List.getElem?_cons_zero,Option.some.injEq] at hj;exact⟨y,rfl,hj▸h.1⟩
 | x::r,y::s,h,j+1,a,hj=>by
  simp only[List.getElem?_cons_succ] at hj|-
  exact Nk h.2 hj
 | _::_,[],h,_,_,_=>h.elim
theorem JN[Mode]{P:Program}{f:FuncId}{xs ds:List D}{res:D}(h:aA P f (xs.map .v) res)(hw:sG xs ds):aA P f (ds.map .v) res:=by
 intro w A vs Fs h0 h1 h2 h3 h4 Z;have V:=Nl hw;refine(h w A vs Fs h0 h1 (by rw[h2];simp[V]) (fun j a S=>?_) h4 fun j b I=>⟨(Z j b I).1,(Z j b I).2.1,by simpa[V] using(Z j b I).2.2⟩).mono ?_
 ·rw[List.getElem?_map,Option.map_eq_some_iff] at S
  obtain⟨x,hx,rfl⟩:=S;obtain⟨d,hd,ad⟩:=Nk hw hx;have:=h3 j (.v d) (by rw[List.getElem?_map,hd];rfl);exact⟨this.1.wk ad,this.2⟩
 ·rintro e w' ⟨v,F,W,e1,e2,e3,e4,e5,Y,e7⟩
  refine⟨v,F,W,e1,e2,e3,fun j a S=>?_,e5,fun j b I=>⟨(Y j b I).1,(Y j b I).2.1,by simpa[V] using(Y j b I).2.2⟩,e7⟩;rw[List.getElem?_map,Option.map_eq_some_iff] at S;obtain⟨d,hd,rfl⟩:=S;have ab:j<xs.length:=by rw[V];exact(List.getElem?_eq_some_iff.1 hd).1
  exact e4 j (.v xs[j]) (by rw[List.getElem?_map,List.getElem?_eq_getElem ab];rfl)
theorem ra[Mode]{P:Program}{f:FuncId}{pl:Prop}{K:St->Prop}{st:St}{xs:List Arg}{bs ds:List D}{res:D}(S:aA P f xs res)(V:xs=bs.map .v)(hw:sG bs ds)(W:res.bA=true\/pl)(I:K (st.push (aV res))):@nS _ P f (some ds) true pl none ⟨K⟩ st :=
 aj (JN (V▸S) hw) rfl W I
theorem O5[Mode]{P:Program}{f:FuncId}{gt:Bool}{pl:Prop}{K:St->Prop}{st:St}{xs:List Arg}{bs ds:List D}{res:D}{b:Bool}(V:b=true->aA P f xs res)(W:xs=bs.map .v)(hw:sG bs ds)(I:b=true->gt=true)(Y:res.bA=true\/pl)(S:K (st.push (.when b res))) :
  @nS _ P f (some ds) gt pl (some b) ⟨K⟩ st:=bf (fun h=>JN (W▸V h) hw) rfl I Y S
end Go.D3
namespace Go.D3
open Go
def gZ(fr to:List Int)(cf:Nat->Nat->Int)(f n N:Nat):List Int:=(List.range N).map fun g=>if g<n then(if to.getD f 0=fr.getD g 0 then cf f g else -1) else 0
def fM(fr to:List Int)(cf:Nat->Nat->Int)(f N:Nat):List (List Int):=(List.range N).map fun i=>if i<f then gZ fr to cf i N N else[]
theorem JR{fr to:List Int}{cf:Nat->Nat->Int}{f n N:Nat}:(gZ fr to cf f n N).length=N:=by simp[gZ]
theorem BS{fr to:List Int}{cf:Nat->Nat->Int}{f N:Nat}:(fM fr to cf f N).length=N:=by simp[fM]
theorem Zp{fr to:List Int}{cf:Nat->Nat->Int}{f N:Nat}:gZ fr to cf f 0 N=List.replicate N 0:=by
 refine List.ext_getElem (by simp[gZ]) fun i h1 I=>?_
 simp[gZ]
theorem aaS{fr to:List Int}{cf:Nat->Nat->Int}{N:Nat}:fM fr to cf 0 N=List.replicate N []:=by
 refine List.ext_getElem (by simp[fM]) fun i h1 I=>?_
 simp[fM]
theorem JS{fr to:List Int}{cf:Nat->Nat->Int}{f n N:Nat}{v:Int}(I:v=if to.getD f 0=fr.getD n 0 then cf f n else -1):(gZ fr to cf f n N).set n v=gZ fr to cf f (n+1) N:=by
 refine List.ext_getElem (by simp[gZ]) fun i h1 S=>?_
 rw[List.getElem_set];simp only[gZ,List.getElem_map,List.getElem_range];by_cases h:n=i
 ·subst h;rw[if_pos rfl,if_pos (by omega),I]
 ·rw[if_neg h]
  by_cases h3:i<n
  ·rw[if_pos h3,if_pos (show i<n+1 by omega)]
  ·rw[if_neg h3,if_neg (show ¬i<n+1 by omega)]
theorem aaR{fr to:List Int}{cf:Nat->Nat->Int}{f N:Nat}:(fM fr to cf f N).set f (gZ fr to cf f N N)=fM fr to cf (f+1) N:=by
 refine List.ext_getElem (by simp[fM]) fun i h1 I=>?_
 rw[List.getElem_set];simp only[fM,List.getElem_map,List.getElem_range];by_cases h:f=i
 ·subst h;rw[if_pos rfl,if_pos (by omega)]
 ·rw[if_neg h]
  by_cases h3:i<f
  ·rw[if_pos h3,if_pos (by omega)]
  ·rw[if_neg h3,if_neg (by omega)]
theorem ZT{α:Type}{l:List α}{i:Nat}{x d:α}(h:i<l.length):(l.set i x).getD i d=x:=by rw[List.getD_eq_getElem?_getD,List.getElem?_set_self h];rfl
end Go.D3
namespace Go.D3
open Go
def s7(b:UInt8):List (List UInt8)->List (List UInt8)
 | x::l=>(b::x)::l
 | []=>[[b]]
def oG(s:List UInt8):List (List UInt8)->List (List UInt8)
 | x::l=>(s++x)::l
 | []=>[s]
def bx(p:List UInt8):Nat->List UInt8->List (List UInt8)
 | _,[]=>[[]]
 | k+1,_::r=>bx p k r
 | 0,b::r=>if p.isPrefixOf (b::r)=true then[]::bx p (p.length-1) r else s7 b (bx p 0 r)
theorem xo{p:List UInt8}{k:Nat}:bx p k []=[[]]:=by cases k<;>rfl
theorem uJ{p:List UInt8}:∀{k:Nat}{s:List UInt8},bx p k s≠[]
 | k,[]=>by rw[xo];simp
 | k+1,_::r=>by rw[bx];exact uJ
 | 0,b::r=>by
  rw[bx];split
  ·simp
  ·cases bx p 0 r<;>simp[s7]
theorem BJ{p:List UInt8}:∀{k:Nat}{s:List UInt8},k<=s.length->bx p k s=bx p 0 (s.drop k)
 | 0,_,_=>rfl
 | k+1,[],h=>by simp at h
 | k+1,_::r,h=>by rw[bx,List.drop_succ_cons];exact BJ (by simpa using h)
theorem IF{p s:List UInt8}(h:p.isPrefixOf s=true):p.length<=s.length:=(List.isPrefixOf_iff_prefix.1 h).length_le
theorem aay{p s:List UInt8}(hp:p≠[])(h:p.isPrefixOf s=true):bx p 0 s=[]::bx p 0 (s.drop p.length):=by
 have I:=IF h;cases s with
 | nil=>cases p with
  | nil=>exact absurd rfl hp
  | cons c q=>simp at I
 | cons b r =>
  cases p with
  | nil=>exact absurd rfl hp
  | cons c q =>
   rw[bx,if_pos h,BJ (by simpa using I)];simp
theorem xn{p r:List UInt8}{b:UInt8}(h:p.isPrefixOf (b::r)=false):bx p 0 (b::r)=s7 b (bx p 0 r):=by
 rw[bx,if_neg (by rw[h];simp)]
theorem AJ{l:List (List UInt8)}(h:l≠[]):oG [] l=l:=by cases l<;>simp_all[oG]
theorem WV{s:List UInt8}{b:UInt8}{l:List (List UInt8)}:oG s (s7 b l)=oG (s++[b]) l:=by cases l<;>simp[oG,s7]
theorem BI{p:List UInt8}:∀{s:List UInt8},s.length<p.length->bx p 0 s=[s]
 | [],_=>xo
 | b::r,h=>by
  have:p.isPrefixOf (b::r)=false:=by
   cases hc:p.isPrefixOf (b::r) with
   | false=>rfl
   | true=>have:=IF hc;omega
  rw[xn this,BI (by simp only[List.length_cons] at h;omega)];rfl
theorem BG{p:List UInt8}(hp:p≠[]){r:List UInt8}:∀{a:List UInt8},(∀i,i<a.length->p.isPrefixOf ((a++p++r).drop i)=false)->bx p 0 (a++p++r)=a::bx p 0 r
 | [],_=>by
  rw[List.nil_append,aay hp (List.isPrefixOf_iff_prefix.2 (List.prefix_append _ _)),List.drop_left]
 | b::a,h=>by
  have I:=h 0 (by simp);have:=BG hp (r:=r) (a:=a) fun i hi=>by have:=h (i+1) (by simp;omega);simpa using this
  rw[List.cons_append,List.cons_append,xn (by simpa using I),this];rfl
theorem BH{p:List UInt8}:∀{a:List UInt8},(∀i,i<a.length->p.isPrefixOf (a.drop i)=false)->bx p 0 a=[a]
 | [],_=>xo
 | b::a,h=>by
  have I:=h 0 (by simp);have:=BH (p:=p) (a:=a) fun i hi=>by have:=h (i+1) (by simp;omega);simpa using this
  rw[xn (by simpa using I),this];rfl
theorem wS{c:UInt8}{s:List UInt8}:[c].isPrefixOf s=(s.head? == some c):=by
 cases s<;>simp[List.isPrefixOf,Bool.beq_comm]
theorem BE{c:UInt8}{a r:List UInt8}(h:c ∉ a):bx [c] 0 (a++[c]++r)=a::bx [c] 0 r:=by
 refine BG (by simp) fun i hi=>?_
 rw[wS,List.append_assoc,List.drop_append_of_le_length (by omega),List.drop_eq_getElem_cons hi];simp only[List.cons_append,List.head?_cons];rw[Bool.eq_false_iff];intro I;simp only[beq_iff_eq,Option.some.injEq] at I;exact h (I▸List.getElem_mem hi)
theorem BF{c:UInt8}{a:List UInt8}(h:c ∉ a):bx [c] 0 a=[a]:=by
 refine BH fun i hi=>?_
 rw[wS,List.drop_eq_getElem_cons hi,List.head?_cons,Bool.eq_false_iff];intro I;simp only[beq_iff_eq,Option.some.injEq] at I;exact h (I▸List.getElem_mem hi)
theorem MI{x c y:UInt8}{a r:List UInt8}(V:x≠c)(h:c ∉ a):bx [x,c,y] 0 (a++[x,c,y]++r)=a::bx [x,c,y] 0 r:=by
 refine BG (by simp) fun i hi=>?_
 rw[Bool.eq_false_iff];intro I;obtain⟨t,S⟩:=List.isPrefixOf_iff_prefix.1 I;have h1:((a++[x,c,y]++r).drop i)[1]?=some c:=by rw[<-S];rfl
 rw[List.getElem?_drop,List.append_assoc] at h1;by_cases hl:i+1<a.length
 ·rw[List.getElem?_append_left hl,List.getElem?_eq_getElem hl] at h1
  exact h (by injection h1 with h1;rw[<-h1];exact List.getElem_mem _)
 ·rw[List.getElem?_append_right (by omega),show i+1-a.length=0 by omega] at h1
  exact V (by simpa using h1)
theorem aav{x c y:UInt8}{a:List UInt8}(h:c ∉ a):bx [x,c,y] 0 a=[a]:=by
 refine BH fun i hi=>?_
 rw[Bool.eq_false_iff];intro I;obtain⟨t,S⟩:=List.isPrefixOf_iff_prefix.1 I;have h1:(a.drop i)[1]?=some c:=by rw[<-S];rfl
 rw[List.getElem?_drop] at h1;exact h (List.mem_of_getElem? h1)
theorem tA{x y sep:List UInt8}{l:List (List UInt8)}:Lib.join (x::y::l) sep=x++sep++Lib.join (y::l) sep:=by
 rw[Lib.join_cons,Lib.join_cons];unfold Lib.joinTail;simp
theorem MN{c:UInt8}:∀{l:List (List UInt8)},l≠[]->(∀x∈l,c ∉ x)->bx [c] 0 (Lib.join l [c])=l
 | [],h,_=>absurd rfl h
 | [x],_,h=>by rw[Lib.join_one];exact BF (h x (by simp))
 | x::y::l,_,h=>by
  rw[tA,BE (h x (by simp)),MN (by simp) fun z I=>h z (List.mem_cons_of_mem _ I)]
theorem oV{p:List UInt8}:∀{k:Nat}{s x:List UInt8},x∈bx p k s->x.length<=s.length
 | k,[],x,h=>by rw[xo] at h;simp at h;subst h;simp
 | k+1,_::r,x,h=>by rw[bx] at h;have:=oV h;simp;omega
 | 0,b::r,x,h=>by
  rw[bx] at h;split at h
  ·rcases List.mem_cons.1 h with rfl | h
   ·simp
   ·have:=oV h;simp;omega
  ·cases hh:bx p 0 r with
   | nil=>exact absurd hh uJ
   | cons y l =>
    rw[hh] at h;rcases List.mem_cons.1 h with rfl | h
    ·have:=oV (p:=p) (k:=0) (s:=r) (x:=y) (by rw[hh];simp);simp;omega
    ·have:=oV (p:=p) (k:=0) (s:=r) (x:=x) (by rw[hh];simp[h]);simp;omega
end Go.D3
