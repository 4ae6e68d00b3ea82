/- WHAT CONTRACTS ARE PROVED WITH: how a function's beginning and end are rewritten,facts on numbers. Generic. -/
import Derived.Test.YtgieggnpnepkfaaGreatDoorFn
namespace Go.D3
open Go
section
variable {P:Program} {K:St→Prop} {st st':St} {env env':List D}
@[congr] theorem out_congr {rs:List RS} {res:D} {g:Nat} {as:List Arg} (h:env=env'):out rs res g as env=out rs res g as env':=by rw [h]
end
theorem gpost_nil {g:Nat} {st:St}:gpost g [] st=True:=rfl
theorem gpost_v {g:Nat} {x:D} {r:List Arg} {st:St}:gpost g (.v x::r) st=gpost (g+1) r st:=rfl
theorem gpost_own {g:Nat} {x:D} {r:List Arg} {st:St}:gpost g (.own x::r) st=gpost (g+1) r st:=rfl
theorem gpost_io {g:Nat} {x y:D} {r:List Arg} {st:St}:gpost g (.io x y::r) st=((st.cont g=y∧y.refs noRef)∧gpost (g+1) r st):=rfl
theorem c0_v {g:Nat} {x:D}:Arg.c0 g (.v x)=x:=rfl
theorem c0_own {g:Nat} {x:D}:Arg.c0 g (.own x)=.o x:=rfl
theorem c0_io {g:Nat} {x y:D}:Arg.c0 g (.io x y)=opv g x:=rfl
theorem g0_v {x:D}:Arg.g0 (.v x)=.dead:=rfl
theorem g0_own {x:D}:Arg.g0 (.own x)=.dead:=rfl
theorem g0_io {x y:D}:Arg.g0 (.io x y)=x:=rfl
theorem io_v {x:D}:Arg.isIo (.v x)=false:=rfl
theorem io_own {x:D}:Arg.isIo (.own x)=false:=rfl
theorem io_io {x y:D}:Arg.isIo (.io x y)=true:=rfl
attribute [go_sem] initE.eq_1 out.eq_1 outL.eq_1 outL.eq_2 outD.eq_1 outD.eq_2 outD.eq_3 retD.eq_1 gpost_nil gpost_v gpost_own gpost_io c0_v c0_own c0_io g0_v g0_own g0_io io_v io_own io_io
 List.map_cons List.map_nil List.getElem?_cons_zero List.getElem?_cons_succ List.getElem?_nil List.any_cons List.any_nil Bool.or_false Bool.false_or Bool.or_true Bool.true_or sets.eq_1 sets.eq_2
theorem pickB_false {c a:Bool}:pickB c a false=(c&&a):=by cases c<;>cases a<;>rfl
theorem pickB_true {c b:Bool}:pickB c true b=(c || b):=by cases c<;>cases b<;>rfl
theorem toNat_zero':Int.toNat 0=0:=rfl
theorem toNat_one':Int.toNat 1=1:=rfl
attribute [go_sem] pickB_false pickB_true ge_iff_le gt_iff_lt Int.toNat_natCast Int.ofNat_lt Int.ofNat_le Int.natCast_nonneg D.bool.injEq toNat_zero' toNat_one'
def fillH [K:KH] (l ys:List D) (res:D) (st:St):Prop:=fillL l ys (fun st=>K.k (st.push (contOf res))) st
@[congr] theorem fillH_congr {l ys:List D} {res:D} {K:KH} {st st':St} (h:st=st'):fillH l ys res st=fillH l ys res st':=by rw [h]
mutual
def D.wfd:D→Prop
 | .int k n=>k.has n
 | .slice _ l=>l.length≤maxLen∧wfdL l
 | .agg l=>wfdL l
 | .tup l=>wfdL l
 | .ptr l=>wfdL l
 | .str s=>s.length≤maxLen
 | _=>True
def wfdL:List D→Prop
 | []=>True
 | x::r=>x.wfd∧wfdL r
end
theorem wfdL_iff:∀ {l:List D},wfdL l↔∀ x∈l,x.wfd
 | []=>by simp [wfdL]
 | x::r=>by simp only [wfdL,wfdL_iff (l:=r),List.mem_cons,forall_eq_or_imp]
theorem wfd_cells {d:D} (h:∀ c∈d.cells,c.wfd):d.wfd:=by
 cases d
 case agg l=>exact wfdL_iff.2 h
 all_goals exact h _ (by simp [D.cells])
theorem Rd.wfd {w:World} {A:Nat→Prop} {v:Value} {d:D} (h:Rd w A v d):d.wfd:=by
 induction h with
 | int h=>exact h
 | str h=>exact h
 | nil=>exact ⟨Nat.zero_le _,trivial⟩
 | empty h=>exact ⟨Nat.zero_le _,trivial⟩
 | @slice z L b off cap sz hA hc hm hz hzz hsz vs hcells hr ih =>
  refine ⟨Nat.le_trans hc hm,wfdL_iff.2 fun x hx=>wfd_cells fun c hcx=>?_⟩
  obtain ⟨i,hi,rfl⟩:=List.getElem_of_mem hx
  obtain ⟨o,ho,rfl⟩:=List.getElem_of_mem hcx
  have hl:=hsz L[i] hx
  have:=cellAt_kid (z:=z) (L:=L) (i:=i) (off:=o) hzz hsz hi (by omega)
  have h2:=ih _ _ this
  simp only [D.kidT,List.getD_eq_getElem?_getD,List.getElem?_eq_getElem hi,Option.getD_some,List.getElem?_eq_getElem ho] at h2
  exact h2
 | agg hs hr ih | tup hs hr ih =>
  exact wfdL_iff.2 fun x hx=>by obtain ⟨i,hi,rfl⟩:=List.getElem_of_mem hx;exact ih i _ (List.getElem?_eq_getElem hi)
 | ptr hA vs hc hr ih=>exact wfdL_iff.2 fun x hx=>by obtain ⟨i,hi,rfl⟩:=List.getElem_of_mem hx;exact ih i _ (List.getElem?_eq_getElem hi)
 | _=>trivial
def argsWf:List Arg→Prop
 | []=>True
 | .v x::r=>x.wfd∧argsWf r
 | .own x::r=>x.wfd∧argsWf r
 | .io (.o x) _::r=>x.wfd∧argsWf r
 | .io _ _::r=>argsWf r
theorem argsWf_of:∀ {as:List Arg},(∀ (j:Nat) (x y:D),as[j]?=some (.v x)∨as[j]?=some (.own x)∨as[j]?=some (.io (.o x) y)→x.wfd)→argsWf as
 | [],_=>trivial
 | a::r,h=>by
  have hr:argsWf r:=argsWf_of fun j x y hx=>h (j+1) x y (by simpa using hx)
  cases a with
  | v x=>exact ⟨h 0 x .dead (.inl rfl),hr⟩
  | own x=>exact ⟨h 0 x .dead (.inr (.inl rfl)),hr⟩
  | io x y=>cases x<;>first | exact hr | exact ⟨h 0 _ y (.inr (.inr rfl)),hr⟩
theorem ret_wf {P:Program} {f:FuncId} {as:List Arg} {res:D} (h:argsWf as→Ret P f as res):Ret P f as res:=by
 intro w A vs Fs h0 h1 h2 h3 h4 h5
 refine h (argsWf_of fun j x y hx=>?_) w A vs Fs h0 h1 h2 h3 h4 h5
 rcases hx with hx | hx | hx
 ·exact (h3 j _ hx).1.wfd
 ·exact ((show Own _ _ _ _ _ from h3 j _ hx).rd (A':=fun _=>True) (fun _ _=>trivial) fun _ _=>trivial).wfd
 ·exact ((show Own _ _ _ _ _ from h3 j _ hx).rd (A':=fun _=>True) (fun _ _=>trivial) fun _ _=>trivial).wfd
theorem wfd_lst {α:Type} {f:α→D} {d:α} {l:List α}:(lst f d l).wfd=(l.length≤maxLen∧∀ x∈l,(f x).wfd):=by
 simp only [lst,D.wfd,List.length_map,wfdL_iff,List.mem_map]
 exact propext ⟨fun h=>⟨h.1,fun x hx=>h.2 _ ⟨x,hx,rfl⟩⟩,fun h=>⟨h.1,by rintro _ ⟨x,hx,rfl⟩;exact h.2 x hx⟩⟩
theorem wrap_sub {a:Int} {n:Nat} (h0 : 0≤a) (h1:a≤maxLen) (h:n≤maxLen):IntKind.i64.wrap (a-n)=a-n:=by
 simp only [maxLen] at *
 exact wrap_of_has ⟨by simp [IntKind.min,IntKind.signed,IntKind.bits];omega,by simp [IntKind.max,IntKind.signed,IntKind.bits];omega⟩
theorem wrap_lt {i n:Nat} (h:i<n) (hn:n≤maxLen):IntKind.i64.wrap ((i:Int)+1)=((i+1:Nat):Int):=by
 have:=wrap_of_has (has_len (n:=i+1) (by omega))
 simpa using this
theorem wrap_small {n:Int} (h1 : -4611686018427387904≤n) (h2:n≤4611686018427387904):IntKind.i64.wrap n=n :=
 wrap_of_has ⟨by simp [IntKind.min,IntKind.signed,IntKind.bits];omega,by simp [IntKind.max,IntKind.signed,IntKind.bits];omega⟩
section
variable {α:Type} {l:List α} {p:α→Bool} {d:α} {i:Nat}
theorem getD_lt (h:i<l.length) (d:α):l.getD i d=l[i]:=by rw [List.getD_eq_getElem?_getD,List.getElem?_eq_getElem h];rfl
theorem take_snoc (h:i<l.length) (d:α):l.take (i+1)=l.take i++[l.getD i d]:=by
 rw [List.take_succ_eq_append_getElem h,getD_lt h]
theorem all_step (h:i<l.length) (ha:(l.take i).all p=true) (hp:p (l.getD i d)=true):(l.take (i+1)).all p=true:=by
 rw [take_snoc h d,List.all_append,ha];simp;simpa using hp
theorem all_stop (h:i<l.length) (hp:p (l.getD i d)=false):l.all p=false:=by
 rw [List.all_eq_false]
 exact ⟨l[i],List.getElem_mem h,by rw [getD_lt h] at hp;simp [hp]⟩
theorem all_end (h:l.length≤i) (ha:(l.take i).all p=true):l.all p=true:=by
 rwa [List.take_of_length_le h] at ha
end
def sb (left:Int) (n:Nat):Int:=if (n:Int)≤left then left-n else -1
def costL {α:Type} (cost:α→Nat) (l:List α):Nat:=l.length+(l.map cost).sum
theorem sum_take {α:Type} {cost:α→Nat} {l:List α} {i:Nat} (h:i<l.length) (d:α):((l.take (i+1)).map cost).sum=((l.take i).map cost).sum+cost (l.getD i d):=by
 rw [take_snoc h d];simp
theorem sum_take_le {α:Type} {cost:α→Nat} {l:List α} (i:Nat):((l.take i).map cost).sum≤(l.map cost).sum:=by
 conv=>rhs;rw [← List.take_append_drop i l]
 rw [List.map_append,List.sum_append]
 omega
theorem nv_lst {α:Type} {f:α→D} {d:α} (h:∀ x,(f x).novw=true) (l:List α):(lst f d l).novw=true:=lst_novw h
theorem nv_ints (l:List Int):(ints l).novw=true:=nv_lst (fun _=>rfl) l
theorem nv_strs (l:List (List UInt8)):(strs l).novw=true:=nv_lst (fun _=>rfl) l
theorem nv_intss (l:List (List Int)):(intss l).novw=true:=nv_lst nv_ints l
def cpy {α:Type} (l:List α) (z:α) (i:Nat):List α:=l.take i++List.replicate (l.length-i) z
section
variable {α:Type} {l:List α} {z d:α} {i:Nat} {cost:α→Nat}
theorem cpy_zero:cpy l z 0=List.replicate l.length z:=by simp [cpy]
theorem cpy_len (h:i≤l.length):(cpy l z i).length=l.length:=by simp [cpy];omega
theorem cpy_set (h:i<l.length):(cpy l z i).set i (l.getD i d)=cpy l z (i+1):=by
 have hr:List.replicate (l.length-i) z=z::List.replicate (l.length-(i+1)) z:=by
  rw [show l.length-i=(l.length-(i+1))+1 by omega,List.replicate_succ]
 unfold cpy
 rw [List.set_append_right _ _ (by simp;omega),hr,take_snoc h d]
 simp [Nat.min_eq_left (Nat.le_of_lt h)]
theorem cpy_end (h:¬ i<l.length):cpy l z i=l:=by
 unfold cpy
 rw [List.take_of_length_le (by omega),show l.length-i=0 by omega];simp
theorem cost_getD (h:i<l.length) (d:α):cost (l.getD i d)≤costL cost l:=by
 have h1:=sum_take (cost:=cost) h d
 have h2:=sum_take_le (cost:=cost) (l:=l) (i+1)
 unfold costL;omega
end
theorem setc_lst {α:Type} {f:α→D} {d:α} {l:List α} {o:Nat} {y:D}:setc (lst f d l) o y=y:=rfl
theorem retD_two {a b:D} {r:List D}:retD (a::b::r)=.tup (a::b::r):=rfl
attribute [go_sem] retD_two setc_lst Prod.mk.injEq and_false false_and Bool.not_not Bool.not_or Bool.or_self
theorem setCs_one {z y:D} {M:List D} {i j:Nat} {r:List D}:setCs (.o (.slice z M)) [(i,0)] j (y::r)=setCs (.o (.slice z (M.set i (setc (M.getD i z) j y)))) [(i,0)] (j+1) r:=by
 simp only [setCs,bump,cellLvl,Nat.zero_add,Bool.false_eq_true,if_false,D.setAt,D.setKid,D.setKidT]
theorem setCs_out {z:D} {i:Nat}:∀ (r:List D) (j:Nat) {M:List D},M.length≤i→setCs (.o (.slice z M)) [(i,0)] j r=.o (.slice z M)
 | [],j,M,h=>rfl
 | y::r,j,M,h=>by
  rw [setCs_one,List.set_eq_of_length_le h,setCs_out r (j+1) h]
theorem setCs_in {z:D} {i:Nat}:∀ (r:List D) (j:Nat) {M:List D} {c:List D},i<M.length→M.getD i z=.agg c→setCs (.o (.slice z M)) [(i,0)] j r=.o (.slice z (M.set i (.agg (setCells c j r))))
 | [],j,M,c,h,hc=>by
  have:M.set i (.agg c)=M:=by
   rw [← hc,List.getD_eq_getElem?_getD,List.getElem?_eq_getElem h];simp
  simp only [setCs,setCells,this]
 | y::r,j,M,c,h,hc=>by
  rw [setCs_one,hc]
  have h1:(M.set i (setc (.agg c) j y)).getD i z=.agg (c.set j y):=by
   rw [List.getD_eq_getElem?_getD,List.getElem?_set_self h];rfl
  rw [setCs_in r (j+1) (by simpa using h) h1,List.set_set]
  rfl
theorem setCells_all {c cs:List D} (h:cs.length=c.length):setCells c 0 cs=cs:=by
 apply List.ext_getElem?
 intro j
 rw [setCells_get cs c 0 j (by omega)]
 by_cases hj:j<cs.length
 ·rw [if_pos (by omega)];rfl
 ·rw [if_neg (by omega),List.getElem?_eq_none (by omega),List.getElem?_eq_none (by omega)]
theorem setCs_lst {α:Type} {f:α→D} {d:α} {l:List α} {i:Nat} {x:α} {cs:List D} {n:Nat} (hf:∀ y,∃ c,f y=.agg c∧c.length=n) (hx:f x=.agg cs):setCs (.o (lst f d l)) [(i,0)] 0 cs=.o (lst f d (l.set i x)):=by
 obtain ⟨c',h1,h2⟩:=hf x
 rw [hx] at h1
 injection h1 with h1
 by_cases h:i<l.length
 ·obtain ⟨c,h3,h4⟩:=hf (l.getD i d)
  have h5:(l.map f).getD i (f d)=.agg c:=by rw [getD_map',h3]
  have h6:cs.length=c.length:=by rw [h1,h2,h4]
  unfold lst
  rw [setCs_in cs 0 (by simpa using h) h5,setCells_all h6,List.map_set,hx]
 ·unfold lst
  rw [setCs_out cs 0 (by simp;omega),List.set_eq_of_length_le (by omega)]
attribute [go_sem ↓] vcC.eq_1 vcC.eq_2 vcC.eq_3 vcC.eq_4 vcC.eq_5 vcC.eq_6 vcC.eq_7 vcC.eq_8 vcC.eq_9 vcC.eq_10 vcC.eq_11 vcT.eq_1 vcT.eq_2 vcOps.eq_1 vcOps.eq_2 vcOps.eq_3 opVC.eq_1 opVC.eq_2 opVC.eq_3 opVC.eq_4 opVC.eq_5 opVC.eq_6 opVC.eq_7 opVC.eq_8 opVC.eq_9 opVC.eq_10 opVC.eq_11 opVC.eq_12 opVC.eq_13 opVC.eq_14 opVC.eq_15 opVC.eq_16 opVC.eq_17 opVC.eq_18 opVC.eq_19 opVC.eq_28 asgPK.eq_1 asgPK.eq_2 nxtVC.eq_1 pureVC.eq_1 pureVC.eq_2 newVC.eq_1 newVC.eq_2 onG.eq_1 onG.eq_2 asgK.eq_1 asgAK.eq_1 absK.eq_1 absK.eq_2 absK.eq_3 absK.eq_4 absK.eq_5 absK.eq_6 absK.eq_7 absK.eq_8 absK.eq_9 absK.eq_10 absK.eq_11 absK.eq_12 absK.eq_13 absK.eq_14 absK.eq_15 absL.eq_1 absL.eq_2 takeK.eq_1 takeK.eq_2 baseK.eq_1 baseK.eq_2 baseK.eq_3 storeK.eq_1 storeK.eq_2 appK.eq_1 guardVC.eq_1 guardVC.eq_2 optVC.eq_1 optVC.eq_2
end Go.D3
