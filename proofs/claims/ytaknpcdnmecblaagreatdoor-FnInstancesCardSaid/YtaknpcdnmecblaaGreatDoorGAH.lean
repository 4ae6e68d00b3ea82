/- CONTRACTS: slices.SortFunc at rows of numbers, from the library's contract. Generic. -/
import Derived.Shelf.SlSortCmp.NoneTotal
import Derived.Test.YtaknpcdnmecblaaGreatDoorHG
namespace Go.D3
open Go Go.Proofs Go.Sort Go.Shelf
set_option maxHeartbeats 2000000
theorem zg{α:Type}[Inhabited α]{enc:α->Value}{w:World}{I off m:Nat}{S:Array α}{os:Array Obj} :
  (sortWorld enc w I off m S os).heap=(w.heap.modify I (onCells (putCells enc off S)))++os:=rfl
theorem MG{α:Type}[Inhabited α]{enc:α->Value}{w:World}{I off m:Nat}{S:Array α}{os:Array Obj}{b:Nat}(V:b<w.heap.size)(W:b≠I):(sortWorld enc w I off m S os).heap[b]?=w.heap[b]?:=by
 rw[zg,Array.getElem?_append_left (by simpa using V),Array.getElem?_modify,if_neg (fun e=>W e.symm)]
theorem MH{α:Type}[Inhabited α]{enc:α->Value}{w:World}{I off m:Nat}{S:Array α}{os:Array Obj}:w.heap.size<=(sortWorld enc w I off m S os).heap.size:=by
 rw[zg,Array.size_append,Array.size_modify];omega
theorem aat{α:Type}[Inhabited α]{enc:α->Value}{w:World}{I off m:Nat}{V:Array α}{os:Array Obj}{cs:Array Value}{e:TypeId}{fz:Nat×Nat}(W:w.heap[I]?=some (.cells cs e fz)) :
  (sortWorld enc w I off m V os).heap[I]?=some (.cells (putCells enc off V cs) e fz):=by
 have S:I<w.heap.size:=(Array.getElem?_eq_some_iff.1 W).1;rw[zg,Array.getElem?_append_left (by simpa using S),Array.getElem?_modify,if_pos rfl,W];rfl
theorem Qw{w w':World}(Y:w.heap.size<=w'.heap.size)(V:∀b,b<w.heap.size->w'.heap[b]?=w.heap[b]?)(h1:w'.os=w.os)(I:w'.tape=w.tape)(S:w'.output=w.output)(W:w.drawn<=w'.drawn) :
  ∃q os,w'=grow (w.drewN q) os:=by
 refine⟨w'.drawn-w.drawn,w'.heap.extract w.heap.size w'.heap.size,?_⟩
 have e:w'.heap=w.heap++w'.heap.extract w.heap.size w'.heap.size:=by
  apply Array.ext_getElem?;intro k;by_cases hk:k<w.heap.size
  ·rw[Array.getElem?_append_left hk,V k hk]
  ·rw[Array.getElem?_append_right (by omega),Array.getElem?_extract]
   split
   ·congr 1;omega
   ·rw[Array.getElem?_eq_none (by omega)]
 cases w;cases w';simp only[grow,World.drewN] at *;subst h1 I S;congr 1;omega
theorem N6{a b:Value}{c:Array Value}:(#[a,b]++c).getD 0 undef=a:=by
 simp only[Array.getD_eq_getD_getElem?];rw[Array.getElem?_append_left (by simp)];rfl
theorem N7{a b:Value}{c:Array Value}:(#[a,b]++c).getD (0+1) undef=b:=by
 simp only[Array.getD_eq_getD_getElem?];rw[Array.getElem?_append_left (by simp)];rfl
theorem YH{P:Program}{ρ:Ren}(L:SlLaysF.n6 P ρ)(cr:fB P (ρ.f 6)=true){g:FuncId}(eg:∀args w,(callFunc g args).run P w=.ok (.enter g args) w){caps:List D}(cI:∀c∈caps,c.refs dW){n:Nat}(hn:n<=1048576)(cf:Nat->Nat->Int)
  (hO:SWO (α:=Fin n) (ltOf fun a b=>cf a.1 b.1)) (b9:∀a b:Nat,a<n->b<n->@aA ⟨true⟩ P g (.v (.int .i64 a)::.v (.int .i64 b)::caps.map .v) (.int .i64 (cf a b))) (l:List (Fin n)) (hl:l.length<=1048576) :
  bn P (ρ.f 6) [.sub 0 [],.fn g caps] [.o (ints (l.map fun i=>(i.1:Int)))] fun rc gs=>rc=.av []/\∃l':List (Fin n),gs=[.o (ints (l'.map fun i=>(i.1:Int)))]/\l'.Perm l/\l'.Pairwise fun a b=>¬cf b.1 a.1<0:=by
 refine⟨cr,fun w A vs gv Fs h0 h1 h2 h3 h4 h5 h6 h7=>?_⟩
 have ec:vs=#[vs.getD 0 undef,vs.getD 1 undef]:=by
  match vs,h2 with
  | ⟨[a,b]⟩,_=>rfl
 have eb:vs.getD 0 undef=gv 0:=by
  obtain⟨_,hv,_⟩:=eD (h3 0 _ rfl);simp only[aR,Option.some.injEq] at hv;exact hv.symm
 have cc:Rd w A (vs.getD 1 undef) (.fn g caps):=po (h3 1 _ rfl) (by
  show cu dW caps
  exact bG.2 cI)
 have S:aq w A (gv 0) (ints (l.map fun i=>(i.1:Int))) (Fs 0):=h4 0
 have fin:∀{e:Ending}{w':World}{l':List (Fin n)},e=.returned (.tuple #[])->w.heap.size<=w'.heap.size->aq w' A (gv 0) (ints (l'.map fun i=>(i.1:Int))) (Fs 0)->(∀b,b<w.heap.size->¬Fs 0 b->w'.heap[b]?=w.heap[b]?)->w'.os=w.os->w'.tape=w.tape->w'.output=w.output ->
   l'.Perm l->(l'.Pairwise fun a b=>¬cf b.1 a.1<0)->∃(rc:D)(ax:List D)(v:Value)(F:Nat->Prop)(a6:Nat->Value)(I:Nat->Nat->Prop),(rc=.av []/\∃l':List (Fin n),ax=[.o (ints (l'.map fun i=>(i.1:Int)))]/\l'.Perm l/\l'.Pairwise fun a b=>¬cf b.1 a.1<0)/\e=.returned v/\w.heap.size<=w'.heap.size /\
   aN w' (fun b=>A b\/(w.heap.size<=b/\b<w'.heap.size/\¬F b/\∀j,¬I j b)) (ai w' (nth ax) a6) v F rc/\(rc.isObj=false->∀b,¬F b) /\
   (∀k,aN w' (fun b=>A b\/(w.heap.size<=b/\b<w'.heap.size/\¬F b/\∀j,¬I j b)) (ai w' (nth ax) a6) (a6 k) (I k) (nth ax k))/\(∀k,(nth ax k).isObj=false->∀b,¬I k b) /\
   (∀k,nth [D.o (ints (l.map fun i=>(i.1:Int)))] k≠.dead->a6 k=gv k) /\
   (∀b,F b->b<w'.heap.size/\(w.heap.size<=b\/∃j,Fs j b)/\∀j,¬I j b)/\(∀j b,I j b->b<w'.heap.size/\(w.heap.size<=b\/∃j,Fs j b))/\(∀i j b,i≠j->I i b->¬I j b) /\
   (∀b,b<w.heap.size->(∀j,¬Fs j b)->w'.heap[b]?=w.heap[b]?)/\w'.os=w.os/\w'.tape=w.tape/\c6 w w':=by
  intro e w' l' he a1 ab ad b2 ag ao hp hs;refine⟨.av [],[.o (ints (l'.map fun i=>(i.1:Int)))],.tuple #[],fun _=>False,gv,Fs,⟨rfl,l',rfl,hp,hs⟩,he,a1,.rd (.av rfl fun j x hx=>by simp at hx),fun _ _ h=>h,fun k=>?_,fun k hk b Y=>?_,fun _ _=>rfl,fun _ h=>h.elim,fun j b Y=>⟨Nat.lt_of_lt_of_le (h7 j b Y).1 a1,.inr ⟨j,Y⟩⟩,h6,fun b Y hn=>ad b Y (hn 0),b2,ag,Il ao⟩
  ·cases k with
   | zero=>exact ab.mono (fun b Y=>.inl Y) (fun _ _=>rfl) (fun _ _=>rfl) fun _ h=>h
   | succ k=>exact Pl.dead
  ·cases k with
   | zero=>cases hk
   | succ k=>exact h5 (k+1) rfl b Y
 rw[ec,eb];by_cases b0:l=[]
 ·subst b0
  obtain⟨p,cap,hv,_⟩:=Ax (show aq w A (gv 0) (.slice (.int .i64 0) []) (Fs 0) from S);rw[hv];refine(AnyF.slices_SortFunc_none { L with } p cap (vs.getD 1 undef) w).mono ?_;rintro e w' ⟨rfl,rfl⟩;exact fin rfl (Nat.le_refl _) S (fun _ _ _=>rfl) rfl rfl rfl (List.Perm.refl _) List.Pairwise.nil
 have ea : 0<n:=by
  cases l with
  | nil=>exact absurd rfl b0
  | cons a r=>exact Nat.lt_of_le_of_lt (Nat.zero_le _) a.2
 haveI:Inhabited (Fin n):=⟨⟨0,ea⟩⟩
 generalize ev:vs.getD 1 undef=v1 at cc;cases cc with
 | @fn _ cb _ hcs hcr' =>
 have hlen:(l.map fun i=>(i.1:Int)).length=l.length:=List.length_map _
 obtain⟨b,off,cap,cs,e,fz,cd,Y,V,cy,hm,bF,hF⟩:∃b off cap cs e fz,gv 0=.slice (some ⟨b,off,none⟩) l.length cap/\w.heap[b]?=some (.cells cs e fz)/\(off+cap<=cs.size/\(fz.2<=fz.1\/cs.size<=fz.1))/\l.length<=cap/\cap<=maxLen/\(∀j (Z:j<l.length),cs.getD (off+j) undef=.int .i64 (l[j].1:Int))/\Fs 0 b:=by
  generalize et:gv 0=v0 at S;unfold ints ae at S;have bg:((l.map fun i=>(i.1:Int)).map (D.int .i64)).length=l.length:=by simp
  generalize cp:(l.map fun i=>(i.1:Int)).map (D.int .i64)=LL at S bg;cases S with
  | nil=>exact absurd (List.length_eq_zero_iff.1 bg.symm) b0
  | @slice _ _ b off cap sz cs e fz _ I Y V hc hm hz hzz a1 hr hF hfs hdis =>
   have cm:sz=1:=by rw[<-hzz];rfl
   subst cm;refine⟨b,off,cap,cs,e,fz,by rw[bg],Y,by simpa using V,by omega,hm,fun j Z=>?_,hF⟩
   have cv:cellAt LL 1 j=some (.int .i64 (l[j].1:Int)):=by
    rw[<-cp];unfold cellAt;simp[Nat.mod_one,Z,D.cells]
   have:=hr j _ cv;generalize cs.getD (off+j) undef=u at this;cases this;rfl
 have b5:b<w.heap.size:=(Array.getElem?_eq_some_iff.1 Y).1;have cq:¬A b:=(h7 0 b hF).2;have a7:l.toArray.size=l.length:=by simp
 have dm:∀j (Z:j<l.length),(l.toArray[j]!)=l[j]:=fun j Z=>by simp[Z]
 have hH:Holds (fun i:Fin n=>Value.int .i64 (i.1:Int)) w b off l.toArray:=fun j Z=>by
  rw[a7] at Z;have b1:off+j<cs.size:=by omega
  refine⟨?_,?_⟩
  ·rw[fQ Y b1,bF j Z,dm j Z]
  ·simp only[World.frozen?,Y]
   rcases V.2 with h | h
   ·simp;omega
   ·simp;omega
 have bT:CmpLays1 P g cb (fun i:Fin n=>Value.int .i64 (i.1:Int)) (fun a b=>cf a.1 b.1) b off l.toArray.size w:=by
  intro m os dk ej x y;have b4:∀c,A c->(sortWorld (fun i:Fin n=>Value.int .i64 (i.1:Int)) w b off m dk os).heap[c]?=w.heap[c]?:=fun c hc=>MG (h1 c hc) (fun e=>cq (e▸hc))
  have hint:∀z:Fin n,IntKind.i64.has (z.1:Int):=fun z=>by
   have:=z.2;exact n9 (by simp only[maxLen];omega)
  refine(@b9 x.1 y.1 x.2 y.2 (sortWorld (fun i:Fin n=>Value.int .i64 (i.1:Int)) w b off m dk os) A (#[.int .i64 (x.1:Int),.int .i64 (y.1:Int)]++cb) (fun _ _=>False) (h0.mono (fun _ h=>h) b4) (fun c hc=>Nat.lt_of_lt_of_le (h1 c hc) MH) (by simp only[Array.size_append,List.size_toArray,List.length_cons,List.length_nil,List.length_map,hcs];omega) (fun j a ha=>?_) (fun _ _ _ _ h=>h.elim) (fun _ _ h=>h.elim)).mono ?_
  ·cases j with
   | zero =>
    simp only[List.getElem?_cons_zero,Option.some.injEq] at ha;subst ha;exact⟨by rw[N6];exact .int (hint x),fun _ h=>h⟩
   | succ j =>
    cases j with
    | zero =>
     simp only[List.getElem?_cons_succ,List.getElem?_cons_zero,Option.some.injEq] at ha;subst ha;exact⟨by rw[N7];exact .int (hint y),fun _ h=>h⟩
    | succ j =>
     simp only[List.getElem?_cons_succ,List.getElem?_map,Option.map_eq_some_iff] at ha;obtain⟨d,hd,rfl⟩:=ha;refine⟨?_,fun _ h=>h⟩;have:=hcr' j d hd
     have e1:(#[Value.int .i64 (x.1:Int),.int .i64 (y.1:Int)]++cb).getD (j+1+1) undef=cb.getD j undef:=by
      simp only[Array.getD_eq_getD_getElem?];rw[Array.getElem?_append_right (by simp)];rfl
     rw[e1];exact this.mono (fun _ h=>h) b4
  ·rintro e' w' ⟨v,F,I,rfl,a1,ab,_,_,_,_,ad,b2,ag,ao⟩
   cases ab with
   | int _=>exact⟨rfl,Qw a1 (fun c hc=>ad c hc fun _ h=>h) b2 ag ao.1 (ao.2 rfl)⟩
 rw[cd,show l.length=l.toArray.size from a7.symm];refine(Any.slices_SortFunc L (fun i:Fin n=>Value.int .i64 (i.1:Int)) (fun _=>rfl) (fun a b=>cf a.1 b.1) hO g cb b off cap l.toArray w eg bT hH b5 (by rw[a7];omega)).mono ?_;rintro e' w' ⟨he,W,m,os,⟨cg,_,cj⟩,hs,rfl⟩;have a8:W.size=l.length:=by rw[cg,a7]
 have b3:W.toList.Perm l:=by
  have e1:W.extract 0 l.toArray.size=W:=by rw[<-cg];exact Array.extract_size
  have e2:l.toArray.extract 0 l.toArray.size=l.toArray:=Array.extract_size;rw[e1,e2] at cj;simpa using cj
 refine fin (l':=W.toList) he MH ?_ (fun c hc hn=>MG hc fun e=>hn (e▸hF)) rfl rfl rfl b3 ?_
 ·rw[cd]
  have hL:(W.toList.map fun i=>(i.1:Int)).length=l.length:=by simp[a8]
  have:=aq.slice (w:=sortWorld (fun i:Fin n=>Value.int .i64 (i.1:Int)) w b off m W os) (A:=A) (z:=.int .i64 0) (L:=(W.toList.map fun i=>(i.1:Int)).map (D.int .i64)) (b:=b) (off:=off) (cap:=cap) (sz:=1) (e:=e) (fz:=fz) (F:=Fs 0) (fun _ _=>False) (aat Y)
   (by
     have e3:(putCells (fun i:Fin n=>Value.int .i64 (i.1:Int)) off W cs).size=cs.size:=by simp[putCells]
     rw[e3,Nat.mul_one];exact V) (by rw[List.length_map,hL];exact cy) hm Nat.one_pos rfl (fun x hx=>by
     obtain⟨y,_,rfl⟩:=List.mem_map.1 hx;rfl) (fun j x hx=>?_) hF (fun _ _ h=>h.elim) (fun _ _ _ _ h=>h.elim)
  ·rw[List.length_map,hL] at this
   exact this
  ·have Z:j<l.length:=by
    unfold cellAt at hx;simp only[Nat.div_one] at hx;cases hg:((W.toList.map fun i=>(i.1:Int)).map (D.int .i64))[j]? with
    | none=>rw[hg] at hx;cases hx
    | some y=>have:=(List.getElem?_eq_some_iff.1 hg).1;rwa [List.length_map,hL] at this
   have b1:off+j<cs.size:=by omega
   have ef:x=.int .i64 ((W[j]'(by omega)).1:Int):=by
    unfold cellAt at hx;simp[Nat.mod_one,a8,Z,D.cells] at hx;exact hx.symm
   have e4:(putCells (fun i:Fin n=>Value.int .i64 (i.1:Int)) off W cs).getD (off+j) undef=.int .i64 ((W[j]'(by omega)).1:Int):=by
    unfold putCells;simp only[Array.getD_eq_getD_getElem?,Array.getElem?_mapIdx];rw[Array.getElem?_eq_getElem b1];simp only[Option.map_some,Option.getD_some];rw[if_pos (by omega),show off+j-off=j by omega,getElem!_pos W j (by omega)]
   rw[e4,ef];have:=(W[j]'(by omega)).2;exact .int (n9 (by simp only[maxLen];omega))
 ·refine List.pairwise_iff_getElem.2 fun i j hi Z dn=>?_
  have:=hs i j (Nat.zero_le _) dn (by simp at Z;omega);simp only[Array.length_toList] at hi Z;rw[getElem!_pos W j Z,getElem!_pos W i hi] at this;simp only[ltOf,decide_eq_false_iff_not] at this;simpa using this
end Go.D3
