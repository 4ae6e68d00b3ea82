/- CONTRACTS: slices.SortFunc at rows of numbers, from the library's contract. Generic. -/
import Derived.Shelf.SlSortCmp.NoneTotal
import Derived.Test.YtpnchponfnbmiaaGreatDoorHG
namespace Go.D3
open Go Go.Proofs Go.Sort Go.Shelf
set_option maxHeartbeats 2000000
theorem yP{α:Type}[Inhabited α]{enc:α->Value}{w:World}{blk off m:Nat}{dk:Array α}{os:Array Obj} :
  (sortWorld enc w blk off m dk os).heap=(w.heap.modify blk (onCells (putCells enc off dk)))++os:=rfl
theorem Mv{α:Type}[Inhabited α]{enc:α->Value}{w:World}{blk off m:Nat}{dk:Array α}{os:Array Obj}{b:Nat}(hb:b<w.heap.size)(hn:b≠blk):(sortWorld enc w blk off m dk os).heap[b]?=w.heap[b]?:=by
 rw[yP,Array.getElem?_append_left (by simpa using hb),Array.getElem?_modify,if_neg (fun e=>hn e.symm)]
theorem Mw{α:Type}[Inhabited α]{enc:α->Value}{w:World}{blk off m:Nat}{dk:Array α}{os:Array Obj}:w.heap.size<=(sortWorld enc w blk off m dk os).heap.size:=by
 rw[yP,Array.size_append,Array.size_modify];omega
theorem aam{α:Type}[Inhabited α]{enc:α->Value}{w:World}{blk off m:Nat}{dk:Array α}{os:Array Obj}{cs:Array Value}{e:TypeId}{fz:Nat×Nat}(hb:w.heap[blk]?=some (.cells cs e fz)) :
  (sortWorld enc w blk off m dk os).heap[blk]?=some (.cells (putCells enc off dk cs) e fz):=by
 have hlt:blk<w.heap.size:=(Array.getElem?_eq_some_iff.1 hb).1;rw[yP,Array.getElem?_append_left (by simpa using hlt),Array.getElem?_modify,if_pos rfl,hb];rfl
theorem PU{w w':World}(hs:w.heap.size<=w'.heap.size)(hh:∀b,b<w.heap.size->w'.heap[b]?=w.heap[b]?)(h1:w'.os=w.os)(h2:w'.tape=w.tape)(h3:w'.output=w.output)(h4:w.drawn<=w'.drawn) :
  ∃q os,w'=grow (w.drewN q) os:=by
 refine⟨w'.drawn-w.drawn,w'.heap.extract w.heap.size w'.heap.size,?_⟩
 have e:w'.heap=w.heap++w'.heap.extract w.heap.size w'.heap.size:=by
  apply Array.ext_getElem?;intro k;by_cases hk:k<w.heap.size
  ·rw[Array.getElem?_append_left hk,hh k hk]
  ·rw[Array.getElem?_append_right (by omega),Array.getElem?_extract]
   split
   ·congr 1;omega
   ·rw[Array.getElem?_eq_none (by omega)]
 cases w;cases w';simp only[grow,World.drewN] at *;subst h1 h2 h3;congr 1;omega
theorem Nw{a b:Value}{c:Array Value}:(#[a,b]++c).getD 0 undef=a:=by
 simp only[Array.getD_eq_getD_getElem?];rw[Array.getElem?_append_left (by simp)];rfl
theorem Nx{a b:Value}{c:Array Value}:(#[a,b]++c).getD (0+1) undef=b:=by
 simp only[Array.getD_eq_getD_getElem?];rw[Array.getElem?_append_left (by simp)];rfl
theorem YC{P:Program}{ρ:Ren}(L:SlLaysF.n6 P ρ)(hbd:eQ P (ρ.f 6)=true){g:FuncId}(eg:∀args w,(callFunc g args).run P w=.ok (.enter g args) w){caps:List D}(hcr:∀c∈caps,c.refs dD){n:Nat}(hn:n<=1048576)(cf:Nat->Nat->Int)
  (hO:SWO (α:=Fin n) (ltOf fun a b=>cf a.1 b.1)) (hcmp:∀a b:Nat,a<n->b<n->@aw ⟨true⟩ P g (.v (.int .i64 a)::.v (.int .i64 b)::caps.map .v) (.int .i64 (cf a b))) (l:List (Fin n)) (hl:l.length<=1048576) :
  bK P (ρ.f 6) [.sub 0 [],.fn g caps] [.o (ints (l.map fun i=>(i.1:Int)))] fun rc gs=>rc=.al []/\∃l':List (Fin n),gs=[.o (ints (l'.map fun i=>(i.1:Int)))]/\l'.Perm l/\l'.Pairwise fun a b=>¬cf b.1 a.1<0:=by
 refine⟨hbd,fun w A vs gv Fs h0 h1 h2 h3 h4 h5 h6 h7=>?_⟩
 have hvs:vs=#[vs.getD 0 undef,vs.getD 1 undef]:=by
  match vs,h2 with
  | ⟨[a,b]⟩,_=>rfl
 have hv0:vs.getD 0 undef=gv 0:=by
  obtain⟨_,hv,_⟩:=dM (h3 0 _ rfl);simp only[aP,Option.some.injEq] at hv;exact hv.symm
 have hfn:Rd w A (vs.getD 1 undef) (.fn g caps):=lV (h3 1 _ rfl) (by
  show bH dD caps
  exact bt.2 hcr)
 have hown:aj w A (gv 0) (ints (l.map fun i=>(i.1:Int))) (Fs 0):=h4 0
 have fin:∀{e:Ending}{w':World}{l':List (Fin n)},e=.returned (.tuple #[])->w.heap.size<=w'.heap.size->aj w' A (gv 0) (ints (l'.map fun i=>(i.1:Int))) (Fs 0)->(∀b,b<w.heap.size->¬Fs 0 b->w'.heap[b]?=w.heap[b]?)->w'.os=w.os->w'.tape=w.tape->w'.output=w.output ->
   l'.Perm l->(l'.Pairwise fun a b=>¬cf b.1 a.1<0)->∃(rc:D)(gs':List D)(v:Value)(F:Nat->Prop)(gv':Nat->Value)(Fs':Nat->Nat->Prop),(rc=.al []/\∃l':List (Fin n),gs'=[.o (ints (l'.map fun i=>(i.1:Int)))]/\l'.Perm l/\l'.Pairwise fun a b=>¬cf b.1 a.1<0)/\e=.returned v/\w.heap.size<=w'.heap.size /\
   aI w' (fun b=>A b\/(w.heap.size<=b/\b<w'.heap.size/\¬F b/\∀j,¬Fs' j b)) (af w' (nth gs') gv') v F rc/\(rc.isObj=false->∀b,¬F b) /\
   (∀k,aI w' (fun b=>A b\/(w.heap.size<=b/\b<w'.heap.size/\¬F b/\∀j,¬Fs' j b)) (af w' (nth gs') gv') (gv' k) (Fs' k) (nth gs' k))/\(∀k,(nth gs' k).isObj=false->∀b,¬Fs' k b) /\
   (∀k,nth [D.o (ints (l.map fun i=>(i.1:Int)))] k≠.dead->gv' k=gv k) /\
   (∀b,F b->b<w'.heap.size/\(w.heap.size<=b\/∃j,Fs j b)/\∀j,¬Fs' j b)/\(∀j b,Fs' j b->b<w'.heap.size/\(w.heap.size<=b\/∃j,Fs j b))/\(∀i j b,i≠j->Fs' i b->¬Fs' j b) /\
   (∀b,b<w.heap.size->(∀j,¬Fs j b)->w'.heap[b]?=w.heap[b]?)/\w'.os=w.os/\w'.tape=w.tape/\cJ w w':=by
  intro e w' l' he hsz hown' hsame hos htape hout hp hs;refine⟨.al [],[.o (ints (l'.map fun i=>(i.1:Int)))],.tuple #[],fun _=>False,gv,Fs,⟨rfl,l',rfl,hp,hs⟩,he,hsz,.rd (.al rfl fun j x hx=>by simp at hx),fun _ _ h=>h,fun k=>?_,fun k hk b hb=>?_,fun _ _=>rfl,fun _ h=>h.elim,fun j b hb=>⟨Nat.lt_of_lt_of_le (h7 j b hb).1 hsz,.inr ⟨j,hb⟩⟩,h6,fun b hb hn=>hsame b hb (hn 0),hos,htape,rq hout⟩
  ·cases k with
   | zero=>exact hown'.mono (fun b hb=>.inl hb) (fun _ _=>rfl) (fun _ _=>rfl) fun _ h=>h
   | succ k=>exact Pl.dead
  ·cases k with
   | zero=>cases hk
   | succ k=>exact h5 (k+1) rfl b hb
 rw[hvs,hv0];by_cases hl0:l=[]
 ·subst hl0
  obtain⟨p,cap,hv,_⟩:=tp (show aj w A (gv 0) (.slice (.int .i64 0) []) (Fs 0) from hown);rw[hv];refine(AnyF.slices_SortFunc_none { L with } p cap (vs.getD 1 undef) w).mono ?_;rintro e w' ⟨rfl,rfl⟩;exact fin rfl (Nat.le_refl _) hown (fun _ _ _=>rfl) rfl rfl rfl (List.Perm.refl _) List.Pairwise.nil
 have hn0 : 0<n:=by
  cases l with
  | nil=>exact absurd rfl hl0
  | cons a r=>exact Nat.lt_of_le_of_lt (Nat.zero_le _) a.2
 haveI:Inhabited (Fin n):=⟨⟨0,hn0⟩⟩
 generalize hv1:vs.getD 1 undef=v1 at hfn;cases hfn with
 | @fn _ cb _ hcs hcr' =>
 have hlen:(l.map fun i=>(i.1:Int)).length=l.length:=List.length_map _
 obtain⟨b,off,cap,cs,e,fz,hgv,hb,hroom,hcm,hm,hcell,hF⟩:∃b off cap cs e fz,gv 0=.slice (some ⟨b,off,none⟩) l.length cap/\w.heap[b]?=some (.cells cs e fz)/\(off+cap<=cs.size/\(fz.2<=fz.1\/cs.size<=fz.1))/\l.length<=cap/\cap<=maxLen/\(∀j (hj:j<l.length),cs.getD (off+j) undef=.int .i64 (l[j].1:Int))/\Fs 0 b:=by
  generalize hg0:gv 0=v0 at hown;unfold ints ae at hown;have hLl:((l.map fun i=>(i.1:Int)).map (D.int .i64)).length=l.length:=by simp
  generalize hLL:(l.map fun i=>(i.1:Int)).map (D.int .i64)=LL at hown hLl;cases hown with
  | nil=>exact absurd (List.length_eq_zero_iff.1 hLl.symm) hl0
  | @slice _ _ b off cap sz cs e fz _ Fs' hb hroom hc hm hz hzz hsz hr hF hfs hdis =>
   have hsz1:sz=1:=by rw[<-hzz];rfl
   subst hsz1;refine⟨b,off,cap,cs,e,fz,by rw[hLl],hb,by simpa using hroom,by omega,hm,fun j hj=>?_,hF⟩
   have hc1:cellAt LL 1 j=some (.int .i64 (l[j].1:Int)):=by
    rw[<-hLL];unfold cellAt;simp[Nat.mod_one,hj,D.cells]
   have:=hr j _ hc1;generalize cs.getD (off+j) undef=u at this;cases this;rfl
 have hblt:b<w.heap.size:=(Array.getElem?_eq_some_iff.1 hb).1;have hbA:¬A b:=(h7 0 b hF).2;have hds:l.toArray.size=l.length:=by simp
 have hdj:∀j (hj:j<l.length),(l.toArray[j]!)=l[j]:=fun j hj=>by simp[hj]
 have hH:Holds (fun i:Fin n=>Value.int .i64 (i.1:Int)) w b off l.toArray:=fun j hj=>by
  rw[hds] at hj;have hlt:off+j<cs.size:=by omega
  refine⟨?_,?_⟩
  ·rw[dU hb hlt,hcell j hj,hdj j hj]
  ·simp only[World.frozen?,hb]
   rcases hroom.2 with h | h
   ·simp;omega
   ·simp;omega
 have hcmp':CmpLays1 P g cb (fun i:Fin n=>Value.int .i64 (i.1:Int)) (fun a b=>cf a.1 b.1) b off l.toArray.size w:=by
  intro m os dk hdk x y;have hA':∀c,A c->(sortWorld (fun i:Fin n=>Value.int .i64 (i.1:Int)) w b off m dk os).heap[c]?=w.heap[c]?:=fun c hc=>Mv (h1 c hc) (fun e=>hbA (e▸hc))
  have hint:∀z:Fin n,IntKind.i64.has (z.1:Int):=fun z=>by
   have:=z.2;exact mb (by simp only[maxLen];omega)
  refine(@hcmp x.1 y.1 x.2 y.2 (sortWorld (fun i:Fin n=>Value.int .i64 (i.1:Int)) w b off m dk os) A (#[.int .i64 (x.1:Int),.int .i64 (y.1:Int)]++cb) (fun _ _=>False) (h0.mono (fun _ h=>h) hA') (fun c hc=>Nat.lt_of_lt_of_le (h1 c hc) Mw) (by simp only[Array.size_append,List.size_toArray,List.length_cons,List.length_nil,List.length_map,hcs];omega) (fun j a ha=>?_) (fun _ _ _ _ h=>h.elim) (fun _ _ h=>h.elim)).mono ?_
  ·cases j with
   | zero =>
    simp only[List.getElem?_cons_zero,Option.some.injEq] at ha;subst ha;exact⟨by rw[Nw];exact .int (hint x),fun _ h=>h⟩
   | succ j =>
    cases j with
    | zero =>
     simp only[List.getElem?_cons_succ,List.getElem?_cons_zero,Option.some.injEq] at ha;subst ha;exact⟨by rw[Nx];exact .int (hint y),fun _ h=>h⟩
    | succ j =>
     simp only[List.getElem?_cons_succ,List.getElem?_map,Option.map_eq_some_iff] at ha;obtain⟨d,hd,rfl⟩:=ha;refine⟨?_,fun _ h=>h⟩;have:=hcr' j d hd
     have e1:(#[Value.int .i64 (x.1:Int),.int .i64 (y.1:Int)]++cb).getD (j+1+1) undef=cb.getD j undef:=by
      simp only[Array.getD_eq_getD_getElem?];rw[Array.getElem?_append_right (by simp)];rfl
     rw[e1];exact this.mono (fun _ h=>h) hA'
  ·rintro e' w' ⟨v,F,Fs',rfl,hsz,hown',_,_,_,_,hsame,hos,htape,hout⟩
   cases hown' with
   | int _=>exact⟨rfl,PU hsz (fun c hc=>hsame c hc fun _ h=>h) hos htape hout.1 (hout.2 rfl)⟩
 rw[hgv,show l.length=l.toArray.size from hds.symm];refine(Any.slices_SortFunc L (fun i:Fin n=>Value.int .i64 (i.1:Int)) (fun _=>rfl) (fun a b=>cf a.1 b.1) hO g cb b off cap l.toArray w eg hcmp' hH hblt (by rw[hds];omega)).mono ?_;rintro e' w' ⟨he,d',m,os,⟨hp1,_,hp3⟩,hs,rfl⟩;have hd's:d'.size=l.length:=by rw[hp1,hds]
 have hperm:d'.toList.Perm l:=by
  have e1:d'.extract 0 l.toArray.size=d':=by rw[<-hp1];exact Array.extract_size
  have e2:l.toArray.extract 0 l.toArray.size=l.toArray:=Array.extract_size;rw[e1,e2] at hp3;simpa using hp3
 refine fin (l':=d'.toList) he Mw ?_ (fun c hc hn=>Mv hc fun e=>hn (e▸hF)) rfl rfl rfl hperm ?_
 ·rw[hgv]
  have hL:(d'.toList.map fun i=>(i.1:Int)).length=l.length:=by simp[hd's]
  have:=aj.slice (w:=sortWorld (fun i:Fin n=>Value.int .i64 (i.1:Int)) w b off m d' os) (A:=A) (z:=.int .i64 0) (L:=(d'.toList.map fun i=>(i.1:Int)).map (D.int .i64)) (b:=b) (off:=off) (cap:=cap) (sz:=1) (e:=e) (fz:=fz) (F:=Fs 0) (fun _ _=>False) (aam hb)
   (by
     have e3:(putCells (fun i:Fin n=>Value.int .i64 (i.1:Int)) off d' cs).size=cs.size:=by simp[putCells]
     rw[e3,Nat.mul_one];exact hroom) (by rw[List.length_map,hL];exact hcm) hm Nat.one_pos rfl (fun x hx=>by
     obtain⟨y,_,rfl⟩:=List.mem_map.1 hx;rfl) (fun j x hx=>?_) hF (fun _ _ h=>h.elim) (fun _ _ _ _ h=>h.elim)
  ·rw[List.length_map,hL] at this
   exact this
  ·have hj:j<l.length:=by
    unfold cellAt at hx;simp only[Nat.div_one] at hx;cases hg:((d'.toList.map fun i=>(i.1:Int)).map (D.int .i64))[j]? with
    | none=>rw[hg] at hx;cases hx
    | some y=>have:=(List.getElem?_eq_some_iff.1 hg).1;rwa [List.length_map,hL] at this
   have hlt:off+j<cs.size:=by omega
   have hx':x=.int .i64 ((d'[j]'(by omega)).1:Int):=by
    unfold cellAt at hx;simp[Nat.mod_one,hd's,hj,D.cells] at hx;exact hx.symm
   have e4:(putCells (fun i:Fin n=>Value.int .i64 (i.1:Int)) off d' cs).getD (off+j) undef=.int .i64 ((d'[j]'(by omega)).1:Int):=by
    unfold putCells;simp only[Array.getD_eq_getD_getElem?,Array.getElem?_mapIdx];rw[Array.getElem?_eq_getElem hlt];simp only[Option.map_some,Option.getD_some];rw[if_pos (by omega),show off+j-off=j by omega,getElem!_pos d' j (by omega)]
   rw[e4,hx'];have:=(d'[j]'(by omega)).2;exact .int (mb (by simp only[maxLen];omega))
 ·refine List.pairwise_iff_getElem.2 fun i j hi hj hij=>?_
  have:=hs i j (Nat.zero_le _) hij (by simp at hj;omega);simp only[Array.length_toList] at hi hj;rw[getElem!_pos d' j hj,getElem!_pos d' i hi] at this;simp only[ltOf,decide_eq_false_iff_not] at this;simpa using this
end Go.D3
