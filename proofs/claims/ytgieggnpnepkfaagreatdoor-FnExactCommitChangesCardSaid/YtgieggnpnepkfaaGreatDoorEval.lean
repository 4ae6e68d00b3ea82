/- TYPED DATA;how 'vcC' is rewritten. Generic. -/
import Derived.Test.YtgieggnpnepkfaaGreatDoorVc
import Derived.Attr
namespace Go.D3
open Go
def lst {α:Type} (f:α→D) (d:α) (l:List α):D:=.slice (f d) (l.map f)
abbrev ints (l:List Int):D:=lst (D.int .i64) 0 l
abbrev bytes (l:List Int):D:=lst (D.int .u8) 0 l
abbrev bools (l:List Bool):D:=lst D.bool false l
abbrev strs (l:List (List UInt8)):D:=lst D.str [] l
abbrev intss (l:List (List Int)):D:=lst ints [] l
abbrev boolss (l:List (List Bool)):D:=lst bools [] l
abbrev strss (l:List (List (List UInt8))):D:=lst strs [] l
abbrev intsss (l:List (List (List Int))):D:=lst intss [] l
abbrev intssss (l:List (List (List (List Int)))):D:=lst intsss [] l
theorem getD_map' {α β:Type} (f:α→β) (d:α) (l:List α) (i:Nat):(l.map f).getD i (f d)=f (l.getD i d):=by
 rw [List.getD_eq_getElem?_getD,List.getD_eq_getElem?_getD,List.getElem?_map]
 cases l[i]?<;>rfl
section lst
variable {α:Type} {f:α→D} {d:α} {l:List α}
theorem lst_len:(lst f d l).len?=some l.length:=by simp [lst,D.len?]
theorem lst_elt {i:Nat}:(lst f d l).elt i=(f (l.getD i d)).cells:=by simp only [lst,D.elt,getD_map']
theorem lst_subOf {lo:Option X}:subOf (lst f d l) lo=none:=rfl
theorem lst_cells:(lst f d l).cells=[lst f d l]:=rfl
theorem lst_cellsOf:(lst f d l).cellsOf=some [lst f d l]:=rfl
theorem lst_core:(lst f d l).core=lst f d l:=by simp [lst,D.core]
theorem lst_gate:(lst f d l).gate=true:=rfl
theorem lst_un:(lst f d l).un=lst f d l:=rfl
theorem lst_opv {k:Nat}:opv k (lst f d l)=lst f d l:=rfl
theorem lst_expo {k:Nat} {p:Path}:expo k p (lst f d l)=.sub k p:=rfl
theorem lst_kidT {i o:Nat}:(lst f d l).kidT i o=(f (l.getD i d)).cells.getD o .dead:=by simp only [lst,D.kidT,getD_map']
theorem lst_setKidT {i o:Nat} {y:D}:(lst f d l).setKidT i o y=.slice (f d) ((l.map f).set i (setc (f (l.getD i d)) o y)):=by simp only [lst,D.setKidT,getD_map']
theorem lst_fold {i:Nat} {x:α}:D.slice (f d) ((l.map f).set i (f x))=lst f d (l.set i x):=by simp [lst,List.map_set]
theorem lst_hasKidT {i o:Nat}:(lst f d l).hasKidT i o=(i<l.length∧o<(f d).cells.length):=by simp [lst,D.hasKidT]
theorem lst_okKidT {i:Nat} {y:D}:(lst f d l).okKidT i y=okCell (f (l.getD i d)) y:=by simp only [lst,D.okKidT,getD_map']
theorem lst_app {M:List α}:(lst f d l).appL (M.map f)=lst f d (l++M):=by simp [lst,D.appL]
theorem lst_app1 {x:α}:(lst f d l).appL [f x]=lst f d (l++[x]):=by simp [lst,D.appL]
theorem lst_app0:(lst f d l).appL []=lst f d l:=by simp [lst,D.appL]
theorem lst_esz:(lst f d l).esz=(f d).cells.length:=rfl
theorem lst_isAgg:(lst f d l).isAgg=false:=rfl
theorem lst_isObj:(lst f d l).isObj=false:=rfl
theorem lst_okc:(lst f d l).okc=true:=rfl
theorem lst_plainC:(lst f d l).plainC=true:=rfl
theorem lst_scal:(lst f d l).scal=false:=rfl
theorem lst_kill {q:D→Bool}:(lst f d l).kill q=lst f d l:=rfl
theorem lst_ren {σ:Nat→Nat}:(lst f d l).ren σ=lst f d l:=rfl
theorem lst_tight:(lst f d l).tight=false:=rfl
theorem lst_refs {Q:D→Prop}:(lst f d l).refs Q=True:=rfl
theorem lst_cont:contOf (lst f d l)=.o (lst f d l):=rfl
theorem lst_rsv:(lst f d l).rsv=true:=rfl
theorem lst_plC:(lst f d l).plC=some (.vw (lst f d l)):=rfl
theorem lst_plT:(lst f d l).plT=some (.vw (lst f d l)):=rfl
theorem lst_contvw:contOf (.vw (lst f d l))=lst f d l:=rfl
theorem lst_own {i:Nat} {st:St}:ownC i (lst f d l) st=st:=rfl
theorem lst_abs {K:D→St→Prop} {st:St}:absK (lst f d l) K st=K (.vw (lst f d l)) st:=rfl
theorem lst_cut {a b:Nat}:(lst f d l).cut a b=some (lst f d ((l.take b).drop a)):=by simp [lst,D.cut,List.map_take,List.map_drop]
theorem lst_lenR {ob:Nat→D}:lenR ob (lst f d l)=some (True,.int .i64 l.length):=by simp [lst,lenR,D.len?,one]
theorem lst_idxAR {ob:Nat→D} {sz:Nat} {k:IntKind} {n:Int}:idxAR sz ob (lst f d l) (.int k n)=some (0≤n∧n<l.length∧(f (l.getD n.toNat d)).cells.length=sz,.ptr (f (l.getD n.toNat d)).cells):=by
 have h:idxAR sz ob (lst f d l) (.int k n)=(lst f d l).len?.bind fun m=>some (0≤n∧n<m∧((lst f d l).elt n.toNat).length=sz,.ptr ((lst f d l).elt n.toNat)):=rfl
 rw [h,lst_len,lst_elt];rfl
theorem lst_src {st:St}:srcOf st (lst f d l)=some (l.map f):=rfl
theorem lst_isSl:(lst f d l).isSl=true:=rfl
theorem lst_mvz:(lst f d l).mvz=((f d).isSl || (f d).isAgg):=rfl
theorem lst_one1:(lst f d l).one1=true:=rfl
theorem lst_mvRow {st:St}:mvRow st (lst f d l)=none:=rfl
theorem lst_isRow {st:St}:isRow st (lst f d l)=none:=rfl
theorem lst_els:(lst f d l).els?=some (l.map f):=rfl
theorem lst_row:(lst f d l).row?=none:=rfl
theorem lst_pc:(lst f d l).pc=true:=by simp [lst,D.pc]
theorem lst_plain:(lst f d l).plain?=some (lst f d l):=rfl
theorem lst_novw (h:∀ x,(f x).novw=true):(lst f d l).novw=true:=by
 simp only [lst,D.novw]
 induction l with
 | nil=>rfl
 | cons a l ih=>simp [novwL,h,ih]
theorem lst_gath {ob:Nat→D} {n:Nat}:gath ob (n+1) (lst f d l)=some (lst f d l):=rfl
end lst
theorem slice_ints:D.slice (.int .i64 0) []=ints []:=rfl
theorem slice_bytes:D.slice (.int .u8 0) []=bytes []:=rfl
theorem slice_bools:D.slice (.bool false) []=bools []:=rfl
theorem slice_strs:D.slice (.str []) []=strs []:=rfl
theorem rep_ints {n:Nat}:D.slice (.int .i64 0) (List.replicate n (.int .i64 0))=ints (List.replicate n 0):=by simp [ints,lst]
theorem rep_bytes {n:Nat}:D.slice (.int .u8 0) (List.replicate n (.int .u8 0))=bytes (List.replicate n 0):=by simp [bytes,lst]
theorem rep_bools {n:Nat}:D.slice (.bool false) (List.replicate n (.bool false))=bools (List.replicate n false):=by simp [bools,lst]
theorem rep_strs {n:Nat}:D.slice (.str []) (List.replicate n (.str []))=strs (List.replicate n []):=by simp [strs,lst]
theorem rep_intss {n:Nat}:D.slice (ints []) (List.replicate n (ints []))=intss (List.replicate n []):=by simp [intss,lst]
theorem rep_boolss {n:Nat}:D.slice (bools []) (List.replicate n (bools []))=boolss (List.replicate n []):=by simp [boolss,lst]
theorem rep_strss {n:Nat}:D.slice (strs []) (List.replicate n (strs []))=strss (List.replicate n []):=by simp [strss,lst]
theorem rep_intsss {n:Nat}:D.slice (intss []) (List.replicate n (intss []))=intsss (List.replicate n []):=by simp [intsss,lst]
theorem slice_intss:D.slice (ints []) []=intss []:=rfl
theorem slice_boolss:D.slice (bools []) []=boolss []:=rfl
theorem slice_strss:D.slice (strs []) []=strss []:=rfl
theorem slice_intsss:D.slice (intss []) []=intsss []:=rfl
theorem slice_intssss:D.slice (intsss []) []=intssss []:=rfl
def mK {α β:Type} (f:α→D) (l:List (α×β)):List D:=l.map fun e=>f e.1
def mV {α β:Type} (g:β→D) (l:List (α×β)):List D:=l.map fun e=>g e.2
def mpL {α β:Type} (f:α→D) (g:β→D) (l:List (α×β)):D:=.mp (mK f l) (mV g l)
section maps
variable {α β:Type} {f:α→D} {g:β→D} {l:List (α×β)} {a:α} {b:β}
def midx [BEq α] (l:List (α×β)) (a:α):Option Nat:=l.findIdx? fun e=>a == e.1
def mget [BEq α] (l:List (α×β)) (a:α) (z:β):β:=((l.find? fun e=>a == e.1).map (·.2)).getD z
def mhas [BEq α] (l:List (α×β)) (a:α):Bool:=l.any fun e=>a == e.1
def mset [BEq α] (l:List (α×β)) (a:α) (b:β):List (α×β) :=
 match midx l a with
 | some i=>l.set i ((l.getD i (a,b)).1,b)
 | none=>l++[(a,b)]
theorem mpL_fold:D.mp (mK f l) (mV g l)=mpL f g l:=rfl
theorem mpL_mp:(mpL f g l).mp?=some (mK f l,mV g l):=rfl
theorem mpL_mpn:(mpL f g l).mpn?=some (mK f l,mV g l):=rfl
theorem mK_len:(mK f l).length=l.length:=by simp [mK]
theorem mpL_isAgg:(mpL f g l).isAgg=false:=rfl
theorem mpL_core:(mpL f g l).core=mpL f g l:=by simp [mpL,D.core]
theorem mpL_gate:(mpL f g l).gate=true:=rfl
theorem mpL_expo {k:Nat} {p:Path}:expo k p (mpL f g l)=.sub k p:=rfl
theorem mpL_opv {k:Nat}:opv k (mpL f g l)=mpL f g l:=rfl
theorem mpL_cellv {k:Nat} {p:Path}:cellv k p (mpL f g l)=mpL f g l:=rfl
theorem mpL_un:(mpL f g l).un=mpL f g l:=rfl
theorem mpL_cells:(mpL f g l).cells=[mpL f g l]:=rfl
theorem mpL_cellsOf:(mpL f g l).cellsOf=some [mpL f g l]:=rfl
theorem mpL_isObj:(mpL f g l).isObj=false:=rfl
theorem mpL_okc:(mpL f g l).okc=true:=rfl
theorem mpL_kill {q:D→Bool}:(mpL f g l).kill q=mpL f g l:=rfl
theorem mpL_ren {σ:Nat→Nat}:(mpL f g l).ren σ=mpL f g l:=rfl
theorem mpL_refs {Q:D→Prop}:(mpL f g l).refs Q=True:=rfl
theorem mpL_cont:contOf (mpL f g l)=.o (mpL f g l):=rfl
theorem mpL_contvw:contOf (.vw (mpL f g l))=mpL f g l:=rfl
theorem mpL_pc:(mpL f g l).pc=true:=rfl
theorem mpL_plain:(mpL f g l).plain?=some (mpL f g l):=rfl
theorem mpL_novw:(mpL f g l).novw=true:=rfl
theorem mpL_tight:(mpL f g l).tight=false:=rfl
theorem mpL_isSl:(mpL f g l).isSl=false:=rfl
theorem mpL_mvz:(mpL f g l).mvz=false:=rfl
theorem mfind_gen [BEq α] (h:∀ a b,keyEq (f a) (f b)=some (a == b)):mfind (f a) (mK f l)=some (midx l a):=by
 unfold mK midx
 induction l with
 | nil=>rfl
 | cons e r ih =>
  simp only [List.map_cons,mfind,h,Option.bind_some,ih,List.findIdx?_cons]
  cases a == e.1<;>rfl
theorem mfind_str {l:List (List UInt8×β)} {a:List UInt8}:mfind (.str a) (mK D.str l)=some (midx l a):=mfind_gen fun _ _=>rfl
theorem mfind_int {k:IntKind} {l:List (Int×β)} {a:Int}:mfind (.int k a) (mK (D.int k) l)=some (midx l a):=mfind_gen fun a b=>by simp [keyEq]
theorem mput_gen [BEq α]:mput (f a) (g b) (mK f l) (mV g l) (midx l a)=(mK f (mset l a b),mV g (mset l a b)):=by
 unfold mset mK mV
 cases h:midx l a with
 | none=>simp [mput]
 | some i =>
  have hi:i<l.length:=by
   unfold midx at h
   rw [List.findIdx?_eq_some_iff_findIdx_eq] at h
   exact h.1
  simp only [mput,List.map_set]
  congr 1
  have:f (l.getD i (a,b)).1=(l.map fun e=>f e.1)[i]'(by simpa using hi):=by simp [List.getD_eq_getElem?_getD,hi]
  rw [this,List.set_getElem_self]
theorem mval_gen [BEq α] {z:β}:mval (g z) (mV g l) (midx l a)=g (mget l a z):=by
 unfold midx mget mV
 induction l with
 | nil=>rfl
 | cons e r ih =>
  rw [List.findIdx?_cons,List.find?_cons]
  cases h:a == e.1 with
  | true=>simp [mval]
  | false =>
   simp only [Bool.false_eq_true,if_false] at ih ⊢
   rw [← ih]
   cases r.findIdx? (fun e=>a == e.1)<;>simp [mval]
theorem midx_some [BEq α]:(midx l a).isSome=mhas l a:=by
 unfold midx mhas
 rw [List.findIdx?_isSome]
theorem mval_int [BEq α] {k:IntKind} {l:List (α×Int)} {z:Int}:mval (.int k z) (mV (D.int k) l) (midx l a)=.int k (mget l a z):=mval_gen
theorem mval_bool [BEq α] {l:List (α×Bool)} {z:Bool}:mval (.bool z) (mV D.bool l) (midx l a)=.bool (mget l a z):=mval_gen
theorem mput_si {k:IntKind} {l:List (List UInt8×Int)} {a:List UInt8} {b:Int}:mput (.str a) (.int k b) (mK D.str l) (mV (D.int k) l) (midx l a)=(mK D.str (mset l a b),mV (D.int k) (mset l a b)):=mput_gen
theorem mput_sb {l:List (List UInt8×Bool)} {a:List UInt8} {b:Bool}:mput (.str a) (.bool b) (mK D.str l) (mV D.bool l) (midx l a)=(mK D.str (mset l a b),mV D.bool (mset l a b)):=mput_gen
theorem mput_ii {j k:IntKind} {l:List (Int×Int)} {a b:Int}:mput (.int j a) (.int k b) (mK (D.int j) l) (mV (D.int k) l) (midx l a)=(mK (D.int j) (mset l a b),mV (D.int k) (mset l a b)):=mput_gen
theorem mput_ib {j:IntKind} {l:List (Int×Bool)} {a:Int} {b:Bool}:mput (.int j a) (.bool b) (mK (D.int j) l) (mV D.bool l) (midx l a)=(mK (D.int j) (mset l a b),mV D.bool (mset l a b)):=mput_gen
end maps
abbrev bytL (s:List UInt8):List Int:=s.map fun b=>(b.toNat:Int)
def byteOf (n:Int):UInt8:=UInt8.ofNat n.toNat
theorem bytesD_eq {s:List UInt8}:bytesD s=bytes (bytL s):=by simp [bytesD,bytes,lst,bytL,Function.comp_def]
theorem bytesOf_map:∀ {l:List Int},bytesOf (l.map (D.int .u8))=some (l.map byteOf)
 | []=>rfl
 | a::r=>by simp only [List.map_cons,bytesOf,bytesOf_map (l:=r),Option.bind_some];rfl
theorem bytes_bys {l:List Int}:(lst (D.int .u8) 0 l).bys?=some (l.map byteOf):=bytesOf_map
attribute [go_sem] mpL_fold mpL_mp mpL_mpn mK_len mpL_isAgg mpL_core mpL_gate mpL_expo mpL_opv mpL_cellv mpL_un mpL_cells mpL_cellsOf mpL_isObj mpL_okc mpL_kill mpL_ren mpL_refs mpL_cont mpL_contvw mpL_pc mpL_plain mpL_novw mpL_tight mpL_isSl mpL_mvz
 mfind_str mfind_int midx_some mval_int mval_bool mput_si mput_sb mput_ii mput_ib bytesD_eq bytes_bys List.head?_cons
section
variable {P:Program} {K:St→Prop} {E:Ex} {st st':St} {env env':List D}
@[congr] theorem vcC_congr {c:C} {K:List D→Prop} (h:env=env'):vcC P c K E env=vcC P c K E env':=by rw [h]
@[congr] theorem vcOps_congr {l:List SOp} (h:st=st'):vcOps P K l st=vcOps P K l st':=by rw [h]
@[congr] theorem opVC_congr {k:Kp} {g g':Option Bool} (hg:g=g') (h:st=st'):opVC P k g K st=opVC P k g' K st':=by rw [h,hg]
@[congr] theorem pureVC_congr {r r':Option PR} {g g':Option Bool} (h:r=r') (hg:g=g'):pureVC r g K st=pureVC r' g' K st:=by rw [h,hg]
@[congr] theorem newVC_congr {r r':Option PR} {g g':Option Bool} (h:r=r') (hg:g=g'):newVC r g K st=newVC r' g' K st:=by rw [h,hg]
@[congr] theorem guardVC_congr {v v':Option Bool} {K:Bool→Prop} (h:v=v'):guardVC v K=guardVC v' K:=by rw [h]
@[congr] theorem condVC_congr {v v':D} {A B:Prop} (h:v=v'):condVC v A B=condVC v' A B:=by rw [h]
@[congr] theorem optVC_congr {α:Type} {v v':Option α} {K:α→Prop} (h:v=v'):optVC v K=optVC v' K:=by rw [h]
@[congr] theorem asgK_congr {j:Nat} {x x':D} (h:x=x'):asgK j x K st=asgK j x' K st:=by rw [h]
@[congr] theorem asgPK_congr {j:Nat} {x x':D} (h:x=x'):asgPK j x K st=asgPK j x' K st:=by rw [h]
@[congr] theorem asgAK_congr {j:Nat} {x x':D} (h:x=x'):asgAK j x K st=asgAK j x' K st:=by rw [h]
@[congr] theorem absK_congr {x x':D} {K:D→St→Prop} (h:x=x') (hs:st=st'):absK x K st=absK x' K st':=by rw [h,hs]
@[congr] theorem absL_congr {x x':List D} {K:List D→St→Prop} (h:x=x') (hs:st=st'):absL x K st=absL x' K st':=by rw [h,hs]
@[congr] theorem takeK_congr {k:Nat} {p p':Path} {K:D→St→Prop} (h:p=p') (hs:st=st'):takeK k p K st=takeK k p' K st':=by rw [h,hs]
@[congr] theorem baseK_congr {x x':D} {K:D→St→Prop} (h:x=x') (hs:st=st'):baseK x K st=baseK x' K st':=by rw [h,hs]
@[congr] theorem storeRK_congr {n:Nat} {a a' x x':D} (h:a=a') (hs:x=x'):storeRK n a x K st=storeRK n a' x' K st:=by rw [h,hs]
@[congr] theorem storeK_congr {n:Nat} {a a' x x':D} (h:a=a') (hs:x=x'):storeK n a x K st=storeK n a' x' K st:=by rw [h,hs]
@[congr] theorem appK_congr {n m:Nat} {a a' x x':D} (h:a=a') (hs:x=x'):appK n m a x K st=appK n m a' x' K st:=by rw [h,hs]
@[congr] theorem callVC_congr {f:FuncId} {ds ds':Option (List D)} {gt gt':Bool} {pl pl':Prop} {g g':Option Bool} {K:KH} (h1:ds=ds') (h2:gt=gt') (h3:pl=pl') (h:g=g') (hs:st=st'):callVC P f ds gt pl g st=callVC P f ds' gt' pl' g' st':=by rw [h1,h2,h3,h,hs]
@[congr] theorem ioVC_congr {f:FuncId} {d d':D} {ds ds':Option (List D)} {gt gt':Bool} {pl pl':Prop} {g g':Option Bool} {K:KH} (h0:d=d') (h1:ds=ds') (h2:gt=gt') (h3:pl=pl') (h:g=g') (hs:st=st'):ioVC P f d ds gt pl g st=ioVC P f d' ds' gt' pl' g' st':=by rw [h0,h1,h2,h3,h,hs]
@[congr] theorem fillL_congr {l l' ys ys':List D} {K:St→Prop} (h0:l=l') (h1:ys=ys') (hs:st=st'):fillL l ys K st=fillL l' ys' K st':=by rw [h0,h1,hs]
@[congr] theorem fill1_congr {x x' y y':D} {r r':List D} {K:St→Prop} (h0:x=x') (h1:y=y') (h2:r=r') (hs:st=st'):fill1 x r y K st=fill1 x' r' y' K st':=by rw [h0,h1,h2,hs]
@[congr] theorem gVC_congr {f:FuncId} {ds ds':List D} {gt gt':Bool} {g g':Bool} {K:KH} (h1:ds=ds') (h2:gt=gt') (h:g=g') (hs:st=st'):gVC P f ds gt g st=gVC P f ds' gt' g' st':=by rw [h1,h2,h,hs]
@[congr] theorem dyn1_congr {x x':D} {ds ds':List D} {gt gt':Bool} {g g':Bool} {K:KH} (h0:x=x') (h1:ds=ds') (h2:gt=gt') (h:g=g') (hs:st=st'):dyn1 P x ds gt g st=dyn1 P x' ds' gt' g' st':=by rw [h0,h1,h2,h,hs]
@[congr] theorem boxdG_congr {x x':D} {K:D→St→Prop} (h:x=x') (hs:st=st'):boxdG x K st=boxdG x' K st':=by rw [h,hs]
@[congr] theorem takeL_congr {d d' l l':List D} {K:List D→St→Prop} (h:d=d') (h':l=l') (hs:st=st'):takeL d l K st=takeL d' l' K st':=by rw [h,h',hs]
@[congr] theorem boxoVC_congr {n:Nat} {x x':D} (h:x=x') (hs:st=st'):boxoVC n x K st=boxoVC n x' K st':=by rw [h,hs]
@[congr] theorem bldTVC_congr {z x x':D} (h:x=x') (hs:st=st'):bldTVC z x K st=bldTVC z x' K st':=by rw [h,hs]
@[congr] theorem cpyVC_congr {x x' y y':D} {K:KH} (h:x=x') (h':y=y') (hs:st=st'):cpyVC x y st=cpyVC x' y' st':=by rw [h,h',hs]
@[congr] theorem mupVC_congr {kk:Nat} {x x' y y' z z':D} {K:KH} (h:x=x') (h':y=y') (h2:z=z') (hs:st=st'):mupVC kk x y z st=mupVC kk x' y' z' st':=by rw [h,h',h2,hs]
@[congr] theorem nxtVC_congr {j:Nat} {K:KH} (hs:st=st'):nxtVC j st=nxtVC j st':=by rw [hs]
@[congr] theorem dynVC_congr {x x':D} {ds ds':List D} {gt gt':Bool} {g g':Option Bool} {K:KH} (h0:x=x') (h1:ds=ds') (h2:gt=gt') (h:g=g') (hs:st=st'):dynVC P x ds gt g st=dynVC P x' ds' gt' g' st':=by rw [h0,h1,h2,h,hs]
@[congr] theorem loopVC_congr {h:LH} (he:env=env'):loopVC env=loopVC env':=by rw [he]
end
attribute [go_sem] vcC.eq_1 vcC.eq_2 vcC.eq_3 vcC.eq_4 vcC.eq_5 vcC.eq_6 vcC.eq_7 vcC.eq_8 vcC.eq_9 vcC.eq_10 vcC.eq_11 vcOps.eq_1 vcOps.eq_2 vcOps.eq_3 opVC.eq_1 opVC.eq_2 opVC.eq_3 opVC.eq_4 opVC.eq_5 opVC.eq_6 opVC.eq_7
  opVC.eq_8 opVC.eq_9 opVC.eq_10 opVC.eq_11 opVC.eq_12 opVC.eq_13 opVC.eq_14 opVC.eq_15 opVC.eq_16 opVC.eq_17 opVC.eq_18 opVC.eq_19 opVC.eq_20 opVC.eq_21 opVC.eq_22 opVC.eq_23 opVC.eq_24 opVC.eq_25 opVC.eq_26 opVC.eq_27 opVC.eq_28
  pureVC.eq_1 pureVC.eq_2 newVC.eq_1 newVC.eq_2 newR.eq_1 newR.eq_2 newR.eq_3 newR.eq_4 newR.eq_5 newR.eq_6 newR.eq_7 newR.eq_8 newR.eq_9 onG.eq_1 onG.eq_2 whG.eq_1 whG.eq_2 asgK.eq_1 asgAK.eq_1 asgPK.eq_1 asgPK.eq_2 upP.eq_1
  upP.eq_2 upP.eq_3 lastZ.eq_1 lastZ.eq_2 lastZ.eq_3 D.isPt.eq_1 D.isPt.eq_2 D.okc.eq_1 D.okc.eq_2 D.okc.eq_3 D.okc.eq_4 D.okc.eq_5 okSz.eq_1 okSz.eq_2 D.plainC.eq_1 D.plainC.eq_2 D.plainC.eq_3 D.plainC.eq_4 D.plainC.eq_5
  D.plainC.eq_6 absK.eq_1 absK.eq_2 absK.eq_3 absK.eq_4 absK.eq_5 absK.eq_6 absK.eq_7 absK.eq_8 absK.eq_9 absK.eq_10 absK.eq_11 absK.eq_12 absK.eq_13 absK.eq_14 absK.eq_15 absL.eq_1 absL.eq_2 takeK.eq_1 takeK.eq_2 baseK.eq_1
  baseK.eq_2 baseK.eq_3 storeK.eq_1 storeK.eq_2 appK.eq_1 contOf.eq_1 contOf.eq_2 contOf.eq_3 contOf.eq_4 contOf.eq_5 contOf.eq_6 contOf.eq_7 contOf.eq_8 contOf.eq_9 contOf.eq_10 contOf.eq_11 contOf.eq_12 contOf.eq_13 contOf.eq_14
  contOf.eq_15 contOf.eq_16 contOf.eq_17 pev.eq_1 pev.eq_2 pev.eq_3 pev.eq_4 pev.eq_5 pev.eq_6 pev.eq_7 pev.eq_8 pev.eq_9 pev.eq_10 pev.eq_11 pev.eq_12 pev.eq_13 pev.eq_14 pev.eq_15 pev.eq_16 pev.eq_17 pev.eq_18 pev.eq_19
  pev.eq_20 pev.eq_21 pev.eq_22 pev.eq_23 pev.eq_24 pev.eq_25 pev.eq_26 pev.eq_27 g1.eq_1 g1.eq_2 g2.eq_1 g2.eq_2 one.eq_1 St.rd.eq_1 St.rd.eq_2 St.rd.eq_3 St.rd.eq_4 St.rd.eq_5 St.cont.eq_1 St.put.eq_1 St.push.eq_1 St.kill.eq_1
  opv.eq_1 opv.eq_2 opv.eq_3 opv.eq_4 expo.eq_1 expo.eq_2 expo.eq_3 expo.eq_4 expo.eq_5 expo.eq_6 expo.eq_7 expo.eq_8 expo.eq_9 expo.eq_10 expo.eq_11 expo.eq_12 expo.eq_13 expo.eq_14 expo.eq_15 expoL.eq_1 expoL.eq_2 nth.eq_1
  nth.eq_2 nth.eq_3 setN.eq_1 setN.eq_2 setN.eq_3 killL.eq_1 killL.eq_2 D.kill.eq_1 D.kill.eq_2 D.kill.eq_3 D.kill.eq_4 D.kill.eq_5 D.kill.eq_6 D.kill.eq_7 D.kill.eq_8 D.kill.eq_9 D.kill.eq_10 D.core.eq_1 D.core.eq_2 D.gate.eq_1
  D.gate.eq_2 binR.eq_1 binR.eq_2 binR.eq_3 binBR.eq_1 binBR.eq_2 intBin.eq_1 intBin.eq_2 intBin.eq_3 intBin.eq_4 intBin.eq_5 intBin.eq_6 intBin.eq_7 intBin.eq_8 intBin.eq_9 intBin.eq_10 intBin.eq_11 intBin.eq_12 strBin.eq_1
  strBin.eq_2 strBin.eq_3 strBin.eq_4 strBin.eq_5 strBin.eq_6 strBin.eq_7 strBin.eq_8 boolBin.eq_1 boolBin.eq_2 boolBin.eq_3 lenR.eq_1 lenR.eq_2 lenSR.eq_1 lenSR.eq_2 idxAR.eq_1 idxAR.eq_2 idxAR.eq_3 ldR.eq_1 ldR.eq_2 ldR.eq_3
  ldaR.eq_1 ldaR.eq_2 ldaR.eq_3 fAR.eq_1 fAR.eq_2 fAR.eq_3 fldR.eq_1 fldR.eq_2 fldaR.eq_1 fldaR.eq_2 notR.eq_1 notR.eq_2 convR.eq_1 convR.eq_2 pickR.eq_1 pickR.eq_2 pickB.eq_1 pickB.eq_2 boxvR.eq_1 boxR.eq_1 mkSR.eq_1 bldSR.eq_1
  bldSR.eq_2 bldSR.eq_3 fillE.eq_1 fillE.eq_2 fillR.eq_1 fillR.eq_2 setCells.eq_1 setCells.eq_2 D.cellsOf.eq_1 D.cellsOf.eq_2 D.cellsOf.eq_3 D.cellsOf.eq_4 D.cellsOf.eq_5 D.cellsOf.eq_6 D.cellsOf.eq_7 D.cellsOf.eq_8 D.cellsOf.eq_9
  mapO.eq_1 mapO.eq_2 gath.eq_1 gath.eq_2 gath.eq_3 gath.eq_4 gath.eq_5 gath.eq_6 gath.eq_7 gath.eq_8 gath.eq_9 gath.eq_10 gath.eq_11 gath.eq_12 gath.eq_13 gath.eq_14 gathL.eq_1 gathL.eq_2 gates.eq_1 gates.eq_2 condVC.eq_1
  condVC.eq_2 begS.eq_1 begS.eq_2 endS.eq_1 endS.eq_2 ownC.eq_1 ownC.eq_2 ownC.eq_3 ownW.eq_1 ownW.eq_2 ownL.eq_1 ownL.eq_2 fin.eq_1 guardVC.eq_1 guardVC.eq_2 gd.eq_1 optVC.eq_1 optVC.eq_2 isRow.eq_1 isRow.eq_2 mvRow.eq_1
  mvRow.eq_2 mvRow.eq_3 D.mvO.eq_1 D.mvO.eq_2 D.mvz.eq_1 D.mvz.eq_2 D.isSl.eq_1 D.isSl.eq_2 D.one1.eq_1 D.one1.eq_2 D.one1.eq_3 D.one1.eq_4 D.one1.eq_5 D.one1.eq_6 D.one1.eq_7 D.one1.eq_8 D.one1.eq_9 D.one1.eq_10 D.one1.eq_11
  one1L.eq_1 one1L.eq_2 D.mvE.eq_1 srcOf.eq_1 srcOf.eq_2 appSrc.eq_1 D.row?.eq_1 D.row?.eq_2 D.els?.eq_1 D.els?.eq_2 D.els?.eq_3 D.o?.eq_1 D.o?.eq_2 D.rsv.eq_1 D.rsv.eq_2 D.rsv.eq_3 D.rsv.eq_4 D.rsv.eq_5 D.rsv.eq_6 D.rsv.eq_7
  D.rsv.eq_8 D.rsv.eq_9 D.rsv.eq_10 rsvL.eq_1 rsvL.eq_2 D.boxO?.eq_1 D.boxO?.eq_2 storeRK.eq_1 storeRK.eq_2 D.tk?.eq_1 D.tk?.eq_2 D.tk?.eq_3 D.plC.eq_1 D.plC.eq_2 D.plC.eq_3 D.plC.eq_4 D.plC.eq_5 D.plC.eq_6 D.plC.eq_7 D.plC.eq_8
  D.plT.eq_1 D.plT.eq_2 D.int?.eq_1 D.int?.eq_2 D.str?.eq_1 D.str?.eq_2 D.bool?.eq_1 D.bool?.eq_2 D.adr?.eq_1 D.adr?.eq_2 D.adr?.eq_3 D.pc.eq_1 D.pc.eq_2 D.pc.eq_3 D.pc.eq_4 D.pc.eq_5 D.pc.eq_6 D.pc.eq_7 D.pc.eq_8 D.pc.eq_9
  szOk.eq_1 szOk.eq_2 D.plain?.eq_1 D.plain?.eq_2 D.plain?.eq_3 D.plain?.eq_4 D.plain?.eq_5 D.plain?.eq_6 D.plain?.eq_7 D.plain?.eq_8 D.plain?.eq_9 D.plain?.eq_10 D.plain?.eq_11 D.plain?.eq_12 D.plain?.eq_13 pcs.eq_1 pcs.eq_2
  idxSR.eq_1 idxSR.eq_2 extR.eq_1 extR.eq_2 nckR.eq_1 nckR.eq_2 nckR.eq_3 nckR.eq_4 eqsR.eq_1 eqsR.eq_2 eqvs.eq_1 eqvs.eq_2 eqvs.eq_3 eqvs.eq_4 eqvs.eq_5 slSR.eq_1 slR.eq_1 subOf.eq_1 subOf.eq_2 bndR.eq_1 bndR.eq_2 capsR.eq_1
  capsR.eq_2 bump.eq_1 bump.eq_2 bump.eq_3 looks.eq_1 looks.eq_2 hass.eq_1 hass.eq_2 lookC.eq_1 cellv.eq_1 cellv.eq_2 D.refs.eq_1 D.refs.eq_2 D.refs.eq_3 D.refs.eq_4 D.refs.eq_5 D.refs.eq_6 D.refs.eq_7 D.refs.eq_8 D.refs.eq_9
  D.refs.eq_10 refsL.eq_1 refsL.eq_2 safeR.eq_1 safeR.eq_2 safeA.eq_1 safeA.eq_2 apartR.eq_1 apartR.eq_2 apartR.eq_3 apart.eq_1 apart.eq_2 apart.eq_3 notInto.eq_1 notInto.eq_2 notInto.eq_3 noRef.eq_1 plainL.eq_1 plainL.eq_2
  qInto.eq_1 qInto.eq_2 qInto.eq_3 qDeep.eq_1 qDeep.eq_2 qDeep.eq_3 qSt.eq_1 qSt.eq_2 qSt.eq_3 gtL.eq_1 gtL.eq_2 gtL.eq_3 geL.eq_1 geL.eq_2 geL.eq_3 hol.eq_1 D.hole.eq_1 D.fillC.eq_1 fill1.eq_1 fill1.eq_2 fillL.eq_1 fillL.eq_2
  fillL.eq_3 qTmp.eq_1 qTmp.eq_2 qTmp.eq_3 D.len?.eq_1 D.len?.eq_2 D.len?.eq_3 D.len?.eq_4 D.elt.eq_1 D.elt.eq_2 D.cells.eq_1 D.cells.eq_2 lk.eq_1 D.isObj.eq_1 D.isObj.eq_2 D.isObj.eq_3 D.isObj.eq_4 D.isO.eq_1 D.isO.eq_2
  D.dat.eq_1 D.at.eq_1 D.at.eq_2 D.kid.eq_1 D.kidT.eq_1 D.kidT.eq_2 D.kidT.eq_3 D.kidT.eq_4 D.kidT.eq_5 D.kidT.eq_6 D.kidT.eq_7 D.un.eq_1 D.un.eq_2 cellLvl.eq_1 cellLvl.eq_2 D.hasC.eq_1 D.hasC.eq_2 D.hasC.eq_3 D.hasC.eq_4
  D.hasC.eq_5 D.hasC.eq_6 D.has.eq_1 D.has.eq_2 D.hasKid.eq_1 D.hasKidT.eq_1 D.hasKidT.eq_2 D.hasKidT.eq_3 D.hasKidT.eq_4 D.hasKidT.eq_5 D.hasKidT.eq_6 D.hasKidT.eq_7 D.setAt.eq_1 D.setAt.eq_2 D.setKid.eq_1 D.setKid.eq_2
  D.setKidT.eq_1 D.setKidT.eq_2 D.setKidT.eq_3 D.setKidT.eq_4 D.setKidT.eq_5 D.setKidT.eq_6 D.setKidT.eq_7 setc.eq_1 setc.eq_2 setCs.eq_1 setCs.eq_2 okCs.eq_1 okCs.eq_2 okAtC.eq_1 okAtC.eq_2 okAtC.eq_3 okAtC.eq_4 okAt.eq_1
  okAt.eq_2 okAt.eq_3 D.okKidT.eq_1 D.okKidT.eq_2 D.okKidT.eq_3 okCell.eq_1 D.isAgg.eq_1 D.isAgg.eq_2 D.scal.eq_1 D.scal.eq_2 D.scal.eq_3 D.scal.eq_4 D.appL.eq_1 D.appL.eq_2 D.esz.eq_1 D.esz.eq_2 D.esz.eq_3 D.cut.eq_1 D.cut.eq_2
  D.cut.eq_3 D.cut.eq_4 D.novw.eq_1 D.novw.eq_2 D.novw.eq_3 D.novw.eq_4 D.novw.eq_5 D.novw.eq_6 D.novw.eq_7 novwL.eq_1 novwL.eq_2 dynVC.eq_1 dynVC.eq_2 dynVC.eq_3 dyn1.eq_1 dyn1.eq_2 boxdG.eq_1 boxdG.eq_2 takeL.eq_1 takeL.eq_2
  takeL.eq_3 boxoVC.eq_1 bldTVC.eq_1 envRefs.eq_1 envRefs.eq_2 scalL.eq_1 scalL.eq_2 aptVC.eq_1 mupVC.eq_1 mupVC.eq_2 mupVC.eq_3 nxtVC.eq_1 D.itr?.eq_1 D.itr?.eq_2 nilIR.eq_1 nilIR.eq_2 nilIR.eq_3 rngR.eq_1 cvBR.eq_1 keyEq.eq_1
  keyEq.eq_2 keyEq.eq_3 keyEq.eq_4 mfind.eq_1 mfind.eq_2 D.mp?.eq_1 D.mp?.eq_2 D.mpn?.eq_1 D.mpn?.eq_2 D.mpn?.eq_3 mapOf.eq_1 mapOf.eq_2 D.keyS.eq_1 D.keyS.eq_2 D.keyS.eq_3 D.keyS.eq_4 mval.eq_1 mval.eq_2 mlkR.eq_1 lenMR.eq_1
  mput.eq_1 mput.eq_2 D.bys?.eq_1 D.bys?.eq_2 D.bys?.eq_3 D.bys?.eq_4 cvSR.eq_1 cvSR.eq_2 rdsL.eq_1 rdsL.eq_2 D.ren.eq_1 D.ren.eq_2 D.ren.eq_3 D.ren.eq_4 D.ren.eq_5 D.ren.eq_6 D.ren.eq_7 D.ren.eq_8 D.ren.eq_9 D.ren.eq_10 renL.eq_1
  renL.eq_2 lendEq.eq_1 lendEq.eq_2 lendEq.eq_3 argG.eq_1 argG.eq_2 argG.eq_3 shO.eq_1 shO.eq_2 shB.eq_1 shB.eq_2 qG1.eq_1 qG1.eq_2 qG1.eq_3 qG.eq_1 qG.eq_2 putsG.eq_1 putsG.eq_2 noNew.eq_1 noNew.eq_2 noNew.eq_3 D.tight.eq_1
  D.tight.eq_2 D.tight.eq_3 D.tight.eq_4 D.tight.eq_5 D.tight.eq_6 D.tight.eq_7 D.tight.eq_8 D.tight.eq_9 D.tight.eq_10 D.tight.eq_11 D.tight.eq_12 tightL.eq_1 tightL.eq_2 D.tightC.eq_1 D.tightC.eq_2 tightCL.eq_1 tightCL.eq_2
  D.tightX.eq_1 D.tightX.eq_2 D.tightX.eq_3 tightXL.eq_1 tightXL.eq_2
 lst_len lst_elt Option.elim_none Option.elim_some lst_subOf lst_cells lst_cellsOf lst_core lst_gate lst_un lst_opv lst_expo lst_kidT lst_setKidT lst_fold lst_hasKidT lst_okKidT lst_app lst_app1 lst_app0 lst_esz lst_isAgg lst_isObj lst_scal lst_okc lst_plainC lst_kill lst_refs lst_ren lst_tight lst_cont lst_own lst_abs lst_cut lst_gath lst_lenR lst_idxAR lst_src lst_isRow lst_isSl lst_mvz lst_one1 lst_mvRow lst_els lst_row lst_pc lst_plain lst_rsv lst_plC lst_plT lst_contvw
 slice_ints slice_bytes slice_bools slice_strs slice_intss slice_boolss slice_strss slice_intsss slice_intssss rep_ints rep_bytes rep_bools rep_strs rep_intss rep_boolss rep_strss rep_intsss
 Option.bind_some Option.map_some Option.bind_none Option.map_none Option.some.injEq if_true if_false true_and and_true Bool.true_and Bool.and_true Bool.and_self Bool.false_and Bool.and_false Bool.not_true Bool.not_false List.drop_zero List.drop_succ_cons List.take_succ_cons List.take_zero List.length_cons List.length_nil List.replicate_succ List.replicate_zero List.map_cons List.map_nil
 List.getD_cons_zero List.getD_cons_succ List.set_cons_zero List.set_cons_succ List.cons_append List.nil_append List.append_nil List.isEmpty_nil List.isEmpty_cons
 reduceCtorEq decide_true decide_false implies_true true_implies false_implies and_self ne_eq not_false_eq_true not_true_eq_false beq_iff_eq true_or or_true false_or or_false eq_self Bool.false_eq_true decide_eq_true_eq decide_eq_false_iff_not Nat.zero_add Nat.add_zero imp_self
end Go.D3
