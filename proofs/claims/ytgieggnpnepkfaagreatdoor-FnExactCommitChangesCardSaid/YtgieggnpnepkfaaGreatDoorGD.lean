/- CONTRACTS: schemas that are read,the reference's side: paths,ParseSchema. -/
import Derived.Test.YtgieggnpnepkfaaGreatDoorGC
import Derived.Test.YtgieggnpnepkfaaGreatDoorGA
import Derived.Lib.RuneCount
namespace Go.D3
open Go
set_option maxRecDepth 100000
set_option maxHeartbeats 2000000
theorem idx_dig {a b:List UInt8} (ha:a.all isDig=true) (hb:b=[]∨isDig (b.getD 0 0)=false):∀ (f pos:Nat),pos≤a.length→(a++b).length≤f+pos →
  Lib.idxFuncFrom noDig true ⟨(a++b).toArray⟩ f pos=if b=[] then -1 else (a.length:Int):=by
 have hsz:(⟨(a++b).toArray⟩:ByteArray).size=(a++b).length:=by show (a++b).toArray.size=_;simp
 have hap:∀ {pos:Nat},pos<a.length→isDig ((a++b).getD pos 0)=true:=fun {pos} h=>by
  rw [List.getD_eq_getElem?_getD,List.getElem?_append_left h,← List.getD_eq_getElem?_getD,getD_lt h];exact List.all_eq_true.1 ha _ (List.getElem_mem h)
 intro f
 induction f with
 | zero =>
  intro pos h1 h2
  rw [List.length_append] at h2
  rw [if_pos (List.length_eq_zero_iff.1 (by omega))];rfl
 | succ f ih =>
  intro pos h1 h2
  unfold Lib.idxFuncFrom
  rw [hsz]
  by_cases hp:pos<(a++b).length
  ·rw [if_pos hp]
   have hr:Utf8.decode ⟨(a++b).toArray⟩ pos=runeAt (a++b) pos:=rfl
   rw [hr]
   rcases rune_dig hp with ⟨hd,he⟩ | ⟨hd,he⟩
   ·have hpa:pos<a.length:=by
     by_cases hpa:pos<a.length
     ·exact hpa
     ·have e:pos=a.length:=by omega
      rw [e,List.getD_eq_getElem?_getD,List.getElem?_append_right (Nat.le_refl _),Nat.sub_self,← List.getD_eq_getElem?_getD] at hd
      rcases hb with rfl | hb
      ·simp at hp;omega
      ·rw [hb] at hd;cases hd
    rw [he,if_neg,ih (pos+1) (by omega) (by omega)]
    simp only [isDig,Bool.and_eq_true,decide_eq_true_eq] at hd
    unfold noDig
    simp only [Bool.or_eq_true,decide_eq_true_eq];omega
   ·have hpa:pos=a.length:=by
     by_cases hpa:pos<a.length
     ·rw [hap hpa] at hd;cases hd
     ·omega
    subst hpa
    rw [if_pos,if_neg]
    ·rintro rfl;simp at hp
    ·unfold noDig
     simp only [Bool.or_eq_true,decide_eq_true_eq];exact he
  ·rw [if_neg hp]
   rw [List.length_append] at hp
   rw [if_pos (List.length_eq_zero_iff.1 (by omega))]
theorem itoa_dig {n:Int} (h : 0≤n):(Lib.itoa n).all isDig=true∧Lib.itoa n≠[]:=by
 obtain ⟨m,rfl⟩:∃ m:Nat,n=m:=⟨n.toNat,by omega⟩
 rw [Lib.itoa_nonneg]
 obtain ⟨h1,_,h3,_⟩:=dec_facts m
 exact ⟨h1,h3⟩
theorem itoa_num {n:Int} {most:Nat} (h : 0≤n) (hl:(Lib.itoa n).length≤most):numO most (Lib.itoa n)=some n.toNat:=by
 obtain ⟨m,rfl⟩:∃ m:Nat,n=m:=⟨n.toNat,by omega⟩
 rw [Lib.itoa_nonneg] at hl ⊢
 exact dec_num hl
theorem itoa_small {n:Int} (h : 0≤n) (h1:n<10):(Lib.itoa n).length=1:=by
 obtain ⟨m,rfl⟩:∃ m:Nat,n=m:=⟨n.toNat,by omega⟩
 rw [Lib.itoa_nonneg,Lib.decDigits_one (by omega)];rfl
theorem edg_nat {e:Int} (h : 0≤e∧e<8):((edgB e).toNat:Int)=97+e:=by
 unfold edgB
 rw [UInt8.toNat_ofNat',Nat.mod_eq_of_lt (by omega)];omega
theorem wrap_i32 {n:Int} (h : 0≤n) (h1:n<1000):IntKind.i32.wrap n=n:=by
 rw [wrap_of_has ⟨by simp only [IntKind.min,IntKind.signed,IntKind.bits];simp;omega,by simp only [IntKind.max,IntKind.signed,IntKind.bits];simp;omega⟩]
theorem rune_asc {s:List UInt8} {i:Nat} (h:i<s.length) (ha:(s.getD i 0).toNat<128):runeAt s i=((s.getD i 0).toNat,1):=by
 have hsz:i<(⟨s.toArray⟩:ByteArray).size:=by show i<s.toArray.size;simpa using h
 have hg:(⟨s.toArray⟩:ByteArray)[i]'hsz=s.getD i 0:=by rw [getD_lt h];rfl
 unfold runeAt
 rw [decode_ascii _ _ hsz (by rw [hg];exact ha),hg]
theorem rune_pos {s:List UInt8} {i:Nat} (h:i<s.length) : 1≤(runeAt s i).2:=Lib.decode_width_pos _ _ (by show i<s.toArray.size;simpa using h)
def PthQ (t:List UInt8) (rc:D) (gs:List D):Prop:=gs=[]∧∃ (p:Pth) (e:Bool),rc=.o (.tup [Pth.d p,errD e])∧∀ q,POk q→t=q.txt→p=q∧e=false
def c_impl_parsePath:C := (.seq (.ops [1] [⟨none,.alc [.int .i64 0,.nils (.int .i64 0)]⟩,⟨none,.asg 2 (.k .nifc)⟩] [(1,0)]) (.seq (.ops [] [⟨none,.mv (.v 0)⟩,⟨none,.call 82 [(.t 0),(.k (.str [64]))]⟩,⟨none,.mv (.t 1)⟩,⟨none,.ext 0 (.t 2)⟩,⟨none,.ext 1 (.t 2)⟩,⟨none,.asg 3 (.t 3)⟩,⟨none,.asg 4 (.t 4)⟩] []) (.seq (.ops [] [⟨none,.mv (.v 3)⟩,⟨none,.call 134 [(.t 0),(.k (.fn 135 []))]⟩,⟨none,.asg 5 (.t 1)⟩] []) (.seq (.opc [] [⟨none,.mv (.v 5)⟩,⟨none,.bin .lss (.t 0) (.i 0)⟩] [] (.t 1) (.ops [] [⟨none,.mv (.v 3)⟩,⟨none,.lenS (.t 0)⟩,⟨none,.asg 5 (.t 1)⟩] []) .skip) (.seq (.ops [] [⟨none,.mv (.v 3)⟩,⟨none,.mv (.v 5)⟩,⟨none,.slS (.t 0) none (some (.t 1))⟩,⟨none,.call 116 [(.t 2)]⟩,⟨none,.mv (.t 3)⟩,⟨none,.ext 0 (.t 4)⟩,⟨none,.ext 1 (.t 4)⟩,⟨none,.asg 6 (.t 5)⟩,⟨none,.asg 7 (.t 6)⟩] []) (.seq (.opc [] [⟨none,.mv (.v 4)⟩,⟨none,.not (.t 0)⟩,⟨none,.mv (.t 1)⟩,⟨some (2,false),.mv (.v 7)⟩,⟨some (2,false),.nilI true (.t 3)⟩,⟨none,.pick (.t 2) (.k (.bool true)) (.t 4)⟩] [] (.t 5) (.seq (.alt [] (.two 1 2 [0,2,1,3] (.leaf [⟨none,.bld [.int .i64 0,.nils (.int .i64 0)] []⟩,⟨none,.ld (.g 0)⟩,⟨none,.stn 2 (.v 1) (.t 0)⟩,⟨none,.asg 2 (.t 1)⟩] []) (.leaf [⟨none,.bld [.int .i64 0,.nils (.int .i64 0)] []⟩,⟨none,.stn 2 (.v 1) (.t 0)⟩,⟨none,.ld (.g 0)⟩,⟨none,.asg 2 (.t 2)⟩] []))) .ret) .skip) (.seq (.ops [8] [⟨none,.mv (.v 6)⟩,⟨none,.bld [.int .i64 0,.nils (.int .i64 0)] [(0,1,(.t 0))]⟩,⟨none,.alc [.int .i64 0,.nils (.int .i64 0)]⟩,⟨none,.stn 2 (.t 2) (.t 1)⟩] [(8,2)]) (.seq (.seq (.ops [10] [⟨none,.mv (.v 3)⟩,⟨none,.mv (.v 5)⟩,⟨none,.slS (.t 0) (some (.t 1)) none⟩,⟨none,.rng (.t 2)⟩] [(10,3)]) (.block 0 (.loop (.opq [11] [⟨none,.nxt 10⟩,⟨none,.ext 0 (.t 0)⟩] [(11,0)] (.t 1) .skip (.exit 0) (.block 1 (.seq (.ops [] [⟨none,.ext 2 (.v 11)⟩,⟨none,.asg 9 (.t 0)⟩] []) (.seq (.opc [] [⟨none,.mv (.v 9)⟩,⟨none,.bin .lss (.t 0) (.k (.int .i32 97))⟩,⟨none,.mv (.t 1)⟩,⟨some (2,false),.mv (.v 9)⟩,⟨some (2,false),.bin .geq (.t 3) (.k (.int .i32 105))⟩,⟨none,.pick (.t 2) (.k (.bool true)) (.t 4)⟩] [] (.t 5) (.seq (.alt [] (.two 1 2 [0,2,1,3] (.leaf [⟨none,.bld [.int .i64 0,.nils (.int .i64 0)] []⟩,⟨none,.ld (.g 0)⟩,⟨none,.stn 2 (.v 1) (.t 0)⟩,⟨none,.asg 2 (.t 1)⟩] []) (.leaf [⟨none,.bld [.int .i64 0,.nils (.int .i64 0)] []⟩,⟨none,.stn 2 (.v 1) (.t 0)⟩,⟨none,.ld (.g 0)⟩,⟨none,.asg 2 (.t 2)⟩] []))) .ret) .skip) (.ops [] [⟨none,.fA 1 (.v 8)⟩,⟨none,.ld (.t 0)⟩,⟨none,.mv (.v 9)⟩,⟨none,.bin .sub (.t 2) (.k (.int .i32 97))⟩,⟨none,.conv .i64 (.t 3)⟩,⟨none,.bldS (.int .i64 0) 1 [(0,(.t 4))]⟩,⟨none,.app 1 8 (.t 1) (.t 5)⟩,⟨none,.fA 1 (.v 8)⟩,⟨none,.st (.t 7) (.t 6)⟩] [])))))))) (.seq (.ops [] [⟨none,.lda 2 (.v 8)⟩,⟨none,.stn 2 (.v 1) (.t 0)⟩,⟨none,.asg 2 (.k .nifc)⟩] []) .ret)))))))))
def tr_impl_parsePath:List Nat:=[0,2,3,4,5,6,7,8,9,11,43,44]
def rs_impl_parsePath:List RS:=[.c 1 2 true,.t 2]
theorem ok_impl_parsePath:fnOk Go.Proofs.Tryz.prog Go.Proofs.Tryz.f119 tr_impl_parsePath c_impl_parsePath 1 rs_impl_parsePath=true:=by decide +kernel
theorem ret_impl_parsePath (t:List UInt8) (ht:t.length≤4294967000):RetE Go.Proofs.Tryz.prog 119 [.str t] [] (PthQ t):=by
 refine ret_fnE .tree Go.Proofs.Tryz.func119 rfl ok_impl_parsePath rfl ⟨by simp only [List.length_cons,List.length_nil];decide,by simp only [List.length_nil];decide⟩ rfl ?_;unfold c_impl_parsePath tr_impl_parsePath rs_impl_parsePath;simp only [go_sem,Nat.reduceLT,Nat.reduceAdd,Nat.reduceSub,↓reduceIte]
 refine call_of ret_cutPrefix rfl (.inl rfl) ?_
 simp only [go_sem,Nat.reduceLT,Nat.reduceAdd,Nat.reduceSub,↓reduceIte]
 refine call_of ret_indexNoDig rfl (.inl rfl) ?_
 simp only [go_sem,Nat.reduceLT,Nat.reduceAdd,Nat.reduceSub,↓reduceIte]
 have hq:∀ q,POk q→t=q.txt→Lib.hasPrefix t [64]=true∧Lib.trimPrefix t [64]=Lib.itoa q.st++q.ed.map edgB:=by
  rintro q hq rfl
  have:Lib.hasPrefix q.txt [64]=true:=rfl
  exact ⟨this,by unfold Lib.trimPrefix;rw [if_pos this];rfl⟩
 have hrl:(Lib.trimPrefix t [64]).length≤t.length:=by unfold Lib.trimPrefix;split<;>simp
 generalize Lib.hasPrefix t [64]=fnd at hq
 generalize Lib.trimPrefix t [64]=rest at hq hrl
 have hat:∀ q,POk q→t=q.txt→(Lib.idxFunc noDig true ⟨rest.toArray⟩<0→rest.length=(Lib.itoa q.st).length)∧(¬ Lib.idxFunc noDig true ⟨rest.toArray⟩<0→Lib.idxFunc noDig true ⟨rest.toArray⟩=(Lib.itoa q.st).length):=by
  intro q h1 h2
  obtain ⟨_,h3⟩:=hq q h1 h2
  have hb:q.ed.map edgB=[]∨isDig ((q.ed.map edgB).getD 0 0)=false:=by
   cases he:q.ed with
   | nil=>exact .inl rfl
   | cons e r =>
    have:=h1.ed 0 (by rw [he];simp)
    rw [he] at this
    simp only [List.getD_cons_zero] at this
    have:=edg_nat this
    refine .inr ?_
    show isDig (edgB e)=false
    simp only [isDig,Bool.and_eq_false_iff,decide_eq_false_iff_not]
    omega
  have:=idx_dig (itoa_dig h1.st.1).1 hb (⟨rest.toArray⟩:ByteArray).size 0 (Nat.zero_le _) (by show _≤rest.toArray.size+0;rw [h3];simp)
  rw [← h3] at this
  unfold Lib.idxFunc
  rw [this]
  split
  ·rename_i hh
   exact ⟨fun _=>by rw [h3,hh];simp,fun h=>absurd (by decide) h⟩
  ·exact ⟨fun h=>by omega,fun _=>rfl⟩
 have hrg:=Lib.idxFunc_range noDig true ⟨rest.toArray⟩
 have hsz:(⟨rest.toArray⟩:ByteArray).size=rest.length:=by show rest.toArray.size=_;simp
 rw [hsz] at hrg
 generalize Lib.idxFunc noDig true ⟨rest.toArray⟩=ix at hat hrg
 have no:(∀ q,POk q→t≠q.txt)→PthQ t (.o (.tup [Pth.d Pth.zero,eS])) []:=fun h=>⟨rfl,Pth.zero,true,rfl,fun q h1 h2=>absurd h2 (h q h1)⟩
 refine ⟨fun h=>?_,fun h=>?_⟩
 ·obtain ⟨n,hn,hnl,hnq⟩:∃ n:Nat,rest.length=n∧n≤rest.length∧∀ q,POk q→t=q.txt→n=(Lib.itoa q.st).length:=⟨rest.length,rfl,Nat.le_refl _,fun q h1 h2=>(hat q h1 h2).1 h⟩
  rw [hn]
  refine ⟨by omega,?_⟩
  refine call_of (ret_impl_digits _) rfl (.inr trivial) ?_
  have hdq:∀ q,POk q→t=q.txt→numO 6 (rest.take n)=some q.st.toNat:=fun q h1 h2=>by
   rw [(hq q h1 h2).2,hnq q h1 h2,List.take_left]
   exact itoa_num h1.st.1 (by rw [itoa_small h1.st.1 (by have:=h1.st;omega)];decide)
  cases hd:numO 6 (rest.take n) with
  | none =>
   rw [hd] at hdq
   simp only [dgtD]
   simp only [go_sem,Nat.reduceLT,Nat.reduceAdd,Nat.reduceSub,Nat.reduceLeDiff,↓reduceIte]
   exact ⟨by simp,_,_,no (fun q h1 h2=>by have:=hdq q h1 h2;cases this),rfl,rfl,trivial⟩
  | some m =>
   rw [hd] at hdq
   simp only [dgtD]
   simp only [go_sem,Nat.reduceLT,Nat.reduceAdd,Nat.reduceSub,Nat.reduceLeDiff,↓reduceIte]
   refine ⟨by simp,fun hf=>⟨_,_,no (fun q h1 h2=>by rw [(hq q h1 h2).1] at hf;cases hf),rfl,rfl,trivial⟩,fun _=>⟨by omega,?_⟩⟩
   rw [List.take_of_length_le (by omega)]
   have hu:∀ q,POk q→t=q.txt→rest.drop n=q.ed.map edgB:=fun q h1 h2=>by rw [(hq q h1 h2).2,hnq q h1 h2,List.drop_left]
   have hul:(rest.drop n).length≤rest.length:=by rw [List.length_drop];omega
   generalize rest.drop n=u at hu hul
   refine loop_set [9,11] (fun (p:Nat×List Int)=>[(8,.box [.int .i64 m,.o (ints p.2)]),(10,.o (.itr u p.1))]) (fun p=>p.2.length≤p.1∧∀ q,POk q→t=q.txt→p.2=q.ed.take p.1) (fun p=>u.length-p.1) (0,[]) (by simp only [go_sem,Nat.reduceLT,↓reduceIte];rfl) ⟨Nat.le_refl _,fun _ _ _=>rfl⟩ rfl ?_
   rintro ⟨i,l⟩ ⟨hli,hlq⟩
   simp only at hli hlq
   simp only [go_sem,Nat.reduceLT,Nat.reduceAdd,Nat.reduceSub,Nat.reduceEqDiff,Nat.reduceBEq,Nat.reduceLeDiff,↓reduceIte]
   have ha:∀ q,POk q→t=q.txt→i<u.length→0≤q.ed.getD i 0∧q.ed.getD i 0<8∧i<q.ed.length∧(runeAt u i).2=1∧((runeAt u i).1:Int)=97+q.ed.getD i 0:=by
    intro q h1 h2 h3
    have hue:=hu q h1 h2
    have h4:i<q.ed.length:=by rw [hue,List.length_map] at h3;exact h3
    obtain ⟨a0,a1⟩:=h1.ed i h4
    have hb:u.getD i 0=edgB (q.ed.getD i 0):=by rw [hue,List.getD_eq_getElem?_getD,List.getElem?_map,List.getElem?_eq_getElem h4,getD_lt h4];rfl
    have he:=edg_nat ⟨a0,a1⟩
    have hr:=rune_asc h3 (by rw [hb];omega)
    rw [hr,hb]
    exact ⟨a0,a1,h4,rfl,he⟩
   refine ⟨fun h3=>⟨by simp,fun h4=>⟨_,_,no (fun q h1 h2=>?_),rfl,rfl,trivial⟩,fun h4=>⟨by omega,?_⟩⟩,fun h3=>⟨_,_,⟨rfl,⟨m,l⟩,false,rfl,fun q h1 h2=>⟨?_,rfl⟩⟩,rfl,rfl,trivial⟩⟩
   ·obtain ⟨a0,a1,a2,a3,a4⟩:=ha q h1 h2 h3
    rw [a4] at h4
    simp only [Bool.or_eq_true,decide_eq_true_eq] at h4
    omega
   ·simp only [Bool.or_eq_false_iff,decide_eq_false_iff_not] at h4
    have hw:IntKind.i64.wrap (IntKind.i32.wrap (((runeAt u i).1:Int)-97))=((runeAt u i).1:Int)-97:=by rw [wrap_i32 (by omega) (by omega),wrap_small (by omega) (by omega)]
    rw [hw]
    have hrp:=rune_pos h3
    refine ⟨(i+(runeAt u i).2,l++[((runeAt u i).1:Int)-97]),⟨by simp;omega,fun q h1 h2=>?_⟩,by show u.length-(i+_)<_;omega,rfl⟩
    obtain ⟨a0,a1,a2,a3,a4⟩:=ha q h1 h2 h3
    show l++_=q.ed.take (i+(runeAt u i).2)
    rw [a3,a4,take_snoc a2 0,hlq q h1 h2,Int.add_comm 97,Int.add_sub_cancel]
   ·have h5:=hdq q h1 h2
    have h6:=hlq q h1 h2
    have h7:=hu q h1 h2
    rw [List.take_of_length_le (by rw [h7,List.length_map] at h3;exact h3)] at h6
    injection h5 with h5
    have:=h1.st
    rw [h6,show (m:Int)=q.st by omega]
 ·obtain ⟨n,rfl,hnl,hnq⟩:∃ n:Nat,ix=n∧n≤rest.length∧∀ q,POk q→t=q.txt→n=(Lib.itoa q.st).length:=⟨ix.toNat,by omega,by omega,fun q h1 h2=>by have:=(hat q h1 h2).2 h;omega⟩
  rw [Int.toNat_natCast]
  refine ⟨by omega,?_⟩
  refine call_of (ret_impl_digits _) rfl (.inr trivial) ?_
  have hdq:∀ q,POk q→t=q.txt→numO 6 (rest.take n)=some q.st.toNat:=fun q h1 h2=>by
   rw [(hq q h1 h2).2,hnq q h1 h2,List.take_left]
   exact itoa_num h1.st.1 (by rw [itoa_small h1.st.1 (by have:=h1.st;omega)];decide)
  cases hd:numO 6 (rest.take n) with
  | none =>
   rw [hd] at hdq
   simp only [dgtD]
   simp only [go_sem,Nat.reduceLT,Nat.reduceAdd,Nat.reduceSub,Nat.reduceLeDiff,↓reduceIte]
   exact ⟨by simp,_,_,no (fun q h1 h2=>by have:=hdq q h1 h2;cases this),rfl,rfl,trivial⟩
  | some m =>
   rw [hd] at hdq
   simp only [dgtD]
   simp only [go_sem,Nat.reduceLT,Nat.reduceAdd,Nat.reduceSub,Nat.reduceLeDiff,↓reduceIte]
   refine ⟨by simp,fun hf=>⟨_,_,no (fun q h1 h2=>by rw [(hq q h1 h2).1] at hf;cases hf),rfl,rfl,trivial⟩,fun _=>⟨by omega,?_⟩⟩
   rw [List.take_of_length_le (by omega)]
   have hu:∀ q,POk q→t=q.txt→rest.drop n=q.ed.map edgB:=fun q h1 h2=>by rw [(hq q h1 h2).2,hnq q h1 h2,List.drop_left]
   have hul:(rest.drop n).length≤rest.length:=by rw [List.length_drop];omega
   generalize rest.drop n=u at hu hul
   refine loop_set [9,11] (fun (p:Nat×List Int)=>[(8,.box [.int .i64 m,.o (ints p.2)]),(10,.o (.itr u p.1))]) (fun p=>p.2.length≤p.1∧∀ q,POk q→t=q.txt→p.2=q.ed.take p.1) (fun p=>u.length-p.1) (0,[]) (by simp only [go_sem,Nat.reduceLT,↓reduceIte];rfl) ⟨Nat.le_refl _,fun _ _ _=>rfl⟩ rfl ?_
   rintro ⟨i,l⟩ ⟨hli,hlq⟩
   simp only at hli hlq
   simp only [go_sem,Nat.reduceLT,Nat.reduceAdd,Nat.reduceSub,Nat.reduceEqDiff,Nat.reduceBEq,Nat.reduceLeDiff,↓reduceIte]
   have ha:∀ q,POk q→t=q.txt→i<u.length→0≤q.ed.getD i 0∧q.ed.getD i 0<8∧i<q.ed.length∧(runeAt u i).2=1∧((runeAt u i).1:Int)=97+q.ed.getD i 0:=by
    intro q h1 h2 h3
    have hue:=hu q h1 h2
    have h4:i<q.ed.length:=by rw [hue,List.length_map] at h3;exact h3
    obtain ⟨a0,a1⟩:=h1.ed i h4
    have hb:u.getD i 0=edgB (q.ed.getD i 0):=by rw [hue,List.getD_eq_getElem?_getD,List.getElem?_map,List.getElem?_eq_getElem h4,getD_lt h4];rfl
    have he:=edg_nat ⟨a0,a1⟩
    have hr:=rune_asc h3 (by rw [hb];omega)
    rw [hr,hb]
    exact ⟨a0,a1,h4,rfl,he⟩
   refine ⟨fun h3=>⟨by simp,fun h4=>⟨_,_,no (fun q h1 h2=>?_),rfl,rfl,trivial⟩,fun h4=>⟨by omega,?_⟩⟩,fun h3=>⟨_,_,⟨rfl,⟨m,l⟩,false,rfl,fun q h1 h2=>⟨?_,rfl⟩⟩,rfl,rfl,trivial⟩⟩
   ·obtain ⟨a0,a1,a2,a3,a4⟩:=ha q h1 h2 h3
    rw [a4] at h4
    simp only [Bool.or_eq_true,decide_eq_true_eq] at h4
    omega
   ·simp only [Bool.or_eq_false_iff,decide_eq_false_iff_not] at h4
    have hw:IntKind.i64.wrap (IntKind.i32.wrap (((runeAt u i).1:Int)-97))=((runeAt u i).1:Int)-97:=by rw [wrap_i32 (by omega) (by omega),wrap_small (by omega) (by omega)]
    rw [hw]
    have hrp:=rune_pos h3
    refine ⟨(i+(runeAt u i).2,l++[((runeAt u i).1:Int)-97]),⟨by simp;omega,fun q h1 h2=>?_⟩,by show u.length-(i+_)<_;omega,rfl⟩
    obtain ⟨a0,a1,a2,a3,a4⟩:=ha q h1 h2 h3
    show l++_=q.ed.take (i+(runeAt u i).2)
    rw [a3,a4,take_snoc a2 0,hlq q h1 h2,Int.add_comm 97,Int.add_sub_cancel]
   ·have h5:=hdq q h1 h2
    have h6:=hlq q h1 h2
    have h7:=hu q h1 h2
    rw [List.take_of_length_le (by rw [h7,List.length_map] at h3;exact h3)] at h6
    injection h5 with h5
    have:=h1.st
    rw [h6,show (m:Int)=q.st by omega]
end Go.D3
namespace Go.D3
open Go
def wB (b:UInt8):Bool:=decide (48≤b.toNat)&&decide (b.toNat≤64) || decide (97≤b.toNat)&&decide (b.toNat≤104)
theorem wB_ne {b:UInt8} (h:wB b=true):b≠32∧b≠124∧b≠45:=by
 unfold wB at h
 simp only [Bool.or_eq_true,Bool.and_eq_true,decide_eq_true_eq] at h
 refine ⟨?_,?_,?_⟩<;>(rintro rfl;revert h;decide)
theorem dig_wB {b:UInt8} (h:isDig b=true):wB b=true:=by
 unfold wB
 simp only [isDig,Bool.and_eq_true,decide_eq_true_eq] at h
 simp only [Bool.or_eq_true,Bool.and_eq_true,decide_eq_true_eq];omega
theorem itoa_mem {n:Int} {b:UInt8} (h : 0≤n) (hb:b∈Lib.itoa n):isDig b=true:=List.all_eq_true.1 (itoa_dig h).1 b hb
theorem txt_mem {p:Pth} (h:POk p) {b:UInt8} (hb:b∈p.txt):wB b=true∧b≠61:=by
 unfold Pth.txt at hb
 rcases List.mem_cons.1 hb with rfl | hb
 ·decide
 ·rcases List.mem_append.1 hb with hb | hb
  ·have:=itoa_mem h.st.1 hb
   refine ⟨dig_wB this,?_⟩
   rintro rfl
   revert this;decide
  ·obtain ⟨e,he,rfl⟩:=List.mem_map.1 hb
   obtain ⟨j,hj,rfl⟩:=List.getElem_of_mem he
   have:=h.ed j hj
   rw [getD_lt hj] at this
   have h2:=edg_nat this
   refine ⟨by unfold wB;simp only [Bool.or_eq_true,Bool.and_eq_true,decide_eq_true_eq];omega,fun hh=>?_⟩
   rw [hh] at h2
   have:(61:UInt8).toNat=61:=rfl
   omega
section
variable {s:Sch} (h:TOk s)
include h
theorem TOk.edm {x:List UInt8} (hx:x∈s.edL s.fr.length):∀ b∈x,wB b=true:=by
 obtain ⟨i,hi,rfl⟩:=List.mem_map.1 hx
 obtain ⟨a,b⟩:=h.ed i (List.mem_range.1 hi)
 intro c hc
 rcases List.mem_append.1 hc with hc | hc
 ·exact dig_wB (itoa_mem a.1 hc)
 ·rcases List.mem_cons.1 hc with rfl | hc
  ·decide
  ·exact dig_wB (itoa_mem b.1 hc)
theorem TOk.eqm {x:List UInt8} (hx:x∈s.eqL s.lf.length):∀ b∈x,wB b=true:=by
 obtain ⟨i,hi,rfl⟩:=List.mem_map.1 hx
 obtain ⟨a,b⟩:=h.eq i (List.mem_range.1 hi)
 intro c hc
 rcases List.mem_append.1 hc with hc | hc
 ·exact (txt_mem a hc).1
 ·rcases List.mem_cons.1 hc with rfl | hc
  ·decide
  ·exact (txt_mem b hc).1
end
theorem join_mem {l:List (List UInt8)} {c b:UInt8} (h:b∈Lib.join l [c]):b=c∨∃ x∈l,b∈x:=by
 cases l with
 | nil=>rw [Lib.join_nil] at h;cases h
 | cons x r =>
  rw [Lib.join_cons] at h
  rcases List.mem_append.1 h with h | h
  ·exact .inr ⟨x,by simp,h⟩
  ·unfold Lib.joinTail at h
   obtain ⟨y,hy,hb⟩:=List.mem_flatten.1 h
   obtain ⟨z,hz,rfl⟩:=List.mem_map.1 hy
   rcases List.mem_append.1 hb with hb | hb
   ·exact .inl (by simpa using hb)
   ·exact .inr ⟨z,by simp [hz],hb⟩
theorem part_mem {l:List (List UInt8)} (hl:∀ x∈l,∀ b∈x,wB b=true):(124:UInt8) ∉ partF l:=by
 unfold partF
 split
 ·decide
 ·intro h
  rcases join_mem h with h | ⟨x,hx,hb⟩
  ·cases h
  ·exact (wB_ne (hl x hx _ hb)).2.1 rfl
theorem words_part {l:List (List UInt8)} (hl:∀ x∈l,∀ b∈x,wB b=true) (h0:∀ x∈l,x≠[]):wordsF (partF l)=l:=by
 unfold partF
 by_cases h:l=[]
 ·subst h;rfl
 ·rw [if_neg h]
  unfold wordsF
  rw [if_neg,spl_join h fun x hx hb=>(wB_ne (hl x hx _ hb)).1 rfl]
  intro hj
  have:(45:UInt8)∈Lib.join l [32]:=by rw [hj];simp
  rcases join_mem this with h | ⟨x,hx,hb⟩
  ·cases h
  ·exact (wB_ne (hl x hx _ hb)).2.2 rfl
theorem parts_txt {s:Sch} (h:TOk s):spl [32,124,32] 0 s.txt=[Lib.itoa s.nd,partF (s.edL s.fr.length),partF (s.eqL s.lf.length)]:=by
 unfold Sch.txt
 rw [join_two,join_two,Lib.join_one,List.append_assoc,← List.append_assoc,spl3_app (by decide) fun hb=>(wB_ne (dig_wB (itoa_mem h.nd.1 hb))).2.1 rfl,
  spl3_app (by decide) (part_mem fun x hx=>h.edm hx),spl3_end (part_mem fun x hx=>h.eqm hx)]
theorem words_ed {s:Sch} (h:TOk s):wordsF (partF (s.edL s.fr.length))=s.edL s.fr.length:=words_part (fun x hx=>h.edm hx) fun x hx=>by
 obtain ⟨i,_,rfl⟩:=List.mem_map.1 hx
 unfold Sch.edT;simp
theorem words_eq {s:Sch} (h:TOk s):wordsF (partF (s.eqL s.lf.length))=s.eqL s.lf.length:=words_part (fun x hx=>h.eqm hx) fun x hx=>by
 obtain ⟨i,_,rfl⟩:=List.mem_map.1 hx
 unfold Sch.eqT;simp
theorem index_one {c:UInt8} {b:List UInt8}:∀ {a:List UInt8},c ∉ a→Lib.index (a++c::b) [c]=a.length
 | [],_=>by rw [List.nil_append,Lib.index];simp [List.isPrefixOf]
 | x::a,h=>by
  have hx:x≠c:=fun hh=>h (by simp [hh])
  have:=index_one (c:=c) (b:=b) (a:=a) fun hh=>h (List.mem_cons_of_mem _ hh)
  have hp:([c]:List UInt8).isPrefixOf (x::(a++c::b))=false:=by rw [pre_one];simpa using hx
  rw [List.cons_append,Lib.index,hp]
  simp only [Bool.false_eq_true,if_false]
  rw [this,if_neg (by simp),List.length_cons];rfl
theorem cut_one {c:UInt8} {a b:List UInt8} (h:c ∉ a):Lib.cut (a++c::b) [c]=(a,b,true):=by
 unfold Lib.cut
 rw [index_one h,if_pos (by omega),Int.toNat_natCast,List.take_left,show a.length + [c].length=(a++[c]).length by simp,show a++c::b=(a++[c])++b by simp,List.drop_left]
theorem split_ed {s:Sch} (h:TOk s) {i:Nat} (hi:i<s.fr.length):splitF (s.edT i)=some ((s.fr.getD i 0).toNat,(s.to.getD i 0).toNat):=by
 obtain ⟨a,b⟩:=h.ed i hi
 unfold splitF Sch.edT
 rw [cut_one fun hb=>by have:=itoa_mem a.1 hb;revert this;decide]
 simp only [itoa_num a.1 (most:=6) (by rw [itoa_small a.1 (by omega)];decide),itoa_num b.1 (most:=6) (by rw [itoa_small b.1 (by omega)];decide)]
theorem cut_eq {s:Sch} (h:TOk s) {i:Nat} (hi:i<s.lf.length):Lib.cut (s.eqT i) [61]=((s.lf.getD i Pth.zero).txt,(s.rt.getD i Pth.zero).txt,true) :=
 cut_one fun hb=>(txt_mem (h.eq i hi).1 hb).2 rfl
theorem edL_get {s:Sch} {n i:Nat} (h:i<n):(s.edL n).getD i []=s.edT i:=by
 unfold Sch.edL
 rw [List.getD_eq_getElem?_getD,List.getElem?_map,List.getElem?_range h];rfl
theorem eqL_get {s:Sch} {n i:Nat} (h:i<n):(s.eqL n).getD i []=s.eqT i:=by
 unfold Sch.eqL
 rw [List.getD_eq_getElem?_getD,List.getElem?_map,List.getElem?_range h];rfl
end Go.D3
namespace Go.D3
open Go
set_option maxRecDepth 100000
set_option maxHeartbeats 4000000
inductive SErr:D→Prop
 | one:SErr eS
 | join {a b:Bool} (h:(a || b)=true):SErr (joinE a b)
def SchQ (t:List UInt8) (rc:D) (gs:List D):Prop:=gs=[]∧∃ (s:Sch) (e:D),rc=.o (.tup [Sch.d s,e])∧(e=.nifc∨SErr e)∧∀ q:Sch,q.ok=true→t=q.txt→s=q∧e=.nifc
def c_impl_parseSchema:C := (.seq (.ops [1] [⟨none,.alc [.int .i64 0,.nils (.int .i64 0),.nils (.int .i64 0),.nils (.agg [.int .i64 0,ints []]),.nils (.agg [.int .i64 0,ints []])]⟩,⟨none,.asg 2 (.k .nifc)⟩] [(1,0)]) (.seq (.ops [] [⟨none,.mv (.v 0)⟩,⟨none,.call 104 [(.t 0),(.k (.str [32,124,32]))]⟩,⟨none,.asg 3 (.t 1)⟩] []) (.seq (.opc [] [⟨none,.mv (.v 3)⟩,⟨none,.len (.t 0)⟩,⟨none,.bin .neq (.t 1) (.i 3)⟩] [] (.t 2) (.seq (.alt [] (.two 1 2 [0,2,1,3] (.leaf [⟨none,.bld [.int .i64 0,.nils (.int .i64 0),.nils (.int .i64 0),.nils (.agg [.int .i64 0,ints []]),.nils (.agg [.int .i64 0,ints []])] []⟩,⟨none,.ld (.g 0)⟩,⟨none,.stn 5 (.v 1) (.t 0)⟩,⟨none,.asg 2 (.t 1)⟩] []) (.leaf [⟨none,.bld [.int .i64 0,.nils (.int .i64 0),.nils (.int .i64 0),.nils (.agg [.int .i64 0,ints []]),.nils (.agg [.int .i64 0,ints []])] []⟩,⟨none,.stn 5 (.v 1) (.t 0)⟩,⟨none,.ld (.g 0)⟩,⟨none,.asg 2 (.t 2)⟩] []))) .ret) .skip) (.seq (.ops [] [⟨none,.mv (.v 3)⟩,⟨none,.idxA 1 (.t 0) (.i 0)⟩,⟨none,.ld (.t 1)⟩,⟨none,.call 116 [(.t 2)]⟩,⟨none,.mv (.t 3)⟩,⟨none,.ext 0 (.t 4)⟩,⟨none,.ext 1 (.t 4)⟩,⟨none,.asg 4 (.t 5)⟩,⟨none,.asg 5 (.t 6)⟩] []) (.seq (.opc [] [⟨none,.mv (.v 5)⟩,⟨none,.nilI true (.t 0)⟩] [] (.t 1) (.seq (.ops [] [⟨none,.bld [.int .i64 0,.nils (.int .i64 0),.nils (.int .i64 0),.nils (.agg [.int .i64 0,ints []]),.nils (.agg [.int .i64 0,ints []])] []⟩,⟨none,.mv (.v 5)⟩,⟨none,.stn 5 (.v 1) (.t 0)⟩,⟨none,.asg 2 (.t 1)⟩] []) .ret) .skip) (.seq (.ops [6] [⟨none,.mv (.v 4)⟩,⟨none,.bld [.int .i64 0,.nils (.int .i64 0),.nils (.int .i64 0),.nils (.agg [.int .i64 0,ints []]),.nils (.agg [.int .i64 0,ints []])] [(0,1,(.t 0))]⟩,⟨none,.alc [.int .i64 0,.nils (.int .i64 0),.nils (.int .i64 0),.nils (.agg [.int .i64 0,ints []]),.nils (.agg [.int .i64 0,ints []])]⟩,⟨none,.stn 5 (.t 2) (.t 1)⟩] [(6,2)]) (.seq (.seq (.ops [18,19] [⟨none,.mv (.v 3)⟩,⟨none,.idxA 1 (.t 0) (.i 1)⟩,⟨none,.ld (.t 1)⟩,⟨none,.call 117 [(.t 2)]⟩,⟨none,.len (.t 3)⟩,⟨none,.asg 20 (.i 0)⟩] [(18,3),(19,4)]) (.block 0 (.loop (.opq [] [⟨none,.bin .lss (.v 20) (.v 19)⟩] [] (.t 0) .skip (.exit 0) (.seq (.block 1 (.seq (.ops [] [⟨none,.idxA 1 (.v 18) (.v 20)⟩,⟨none,.ld (.t 0)⟩,⟨none,.asg 7 (.t 1)⟩] []) (.seq (.ops [] [⟨none,.mv (.v 7)⟩,⟨none,.bldS (.str []) 1 [(0,(.k (.str [62])))]⟩,⟨none,.dyn (.k (.fn 118 [])) [(.t 0),(.t 1)]⟩,⟨none,.mv (.t 2)⟩,⟨none,.ext 0 (.t 3)⟩,⟨none,.ext 1 (.t 3)⟩,⟨none,.asg 8 (.t 4)⟩,⟨none,.asg 9 (.t 5)⟩] []) (.seq (.opc [] [⟨none,.mv (.v 9)⟩,⟨none,.nilI true (.t 0)⟩] [] (.t 1) (.seq (.ops [] [⟨none,.bld [.int .i64 0,.nils (.int .i64 0),.nils (.int .i64 0),.nils (.agg [.int .i64 0,ints []]),.nils (.agg [.int .i64 0,ints []])] []⟩,⟨none,.mv (.v 9)⟩,⟨none,.stn 5 (.v 1) (.t 0)⟩,⟨none,.asg 2 (.t 1)⟩] []) .ret) .skip) (.seq (.ops [] [⟨none,.fA 1 (.v 6)⟩,⟨none,.ld (.t 0)⟩,⟨none,.mv (.v 8)⟩,⟨none,.idxA 1 (.t 2) (.i 0)⟩,⟨none,.ld (.t 3)⟩,⟨none,.bldS (.int .i64 0) 1 [(0,(.t 4))]⟩,⟨none,.app 1 8 (.t 1) (.t 5)⟩,⟨none,.fA 1 (.v 6)⟩,⟨none,.st (.t 7) (.t 6)⟩] []) (.ops [] [⟨none,.fA 2 (.v 6)⟩,⟨none,.ld (.t 0)⟩,⟨none,.mv (.v 8)⟩,⟨none,.idxA 1 (.t 2) (.i 1)⟩,⟨none,.ld (.t 3)⟩,⟨none,.bldS (.int .i64 0) 1 [(0,(.t 4))]⟩,⟨none,.app 1 8 (.t 1) (.t 5)⟩,⟨none,.fA 2 (.v 6)⟩,⟨none,.st (.t 7) (.t 6)⟩] [])))))) (.ops [] [⟨none,.bin .add (.v 20) (.i 1)⟩,⟨none,.asg 20 (.t 0)⟩] [])))))) (.seq (.seq (.ops [21,22] [⟨none,.mv (.v 3)⟩,⟨none,.idxA 1 (.t 0) (.i 2)⟩,⟨none,.ld (.t 1)⟩,⟨none,.call 117 [(.t 2)]⟩,⟨none,.len (.t 3)⟩,⟨none,.asg 23 (.i 0)⟩] [(21,3),(22,4)]) (.block 2 (.loop (.opq [] [⟨none,.bin .lss (.v 23) (.v 22)⟩] [] (.t 0) .skip (.exit 2) (.seq (.block 3 (.seq (.ops [] [⟨none,.idxA 1 (.v 21) (.v 23)⟩,⟨none,.ld (.t 0)⟩,⟨none,.asg 10 (.t 1)⟩] []) (.seq (.ops [] [⟨none,.mv (.v 10)⟩,⟨none,.call 81 [(.t 0),(.k (.str [61]))]⟩,⟨none,.mv (.t 1)⟩,⟨none,.ext 0 (.t 2)⟩,⟨none,.ext 1 (.t 2)⟩,⟨none,.ext 2 (.t 2)⟩,⟨none,.asg 11 (.t 3)⟩,⟨none,.asg 12 (.t 4)⟩,⟨none,.mv (.t 5)⟩] []) (.seq (.ops [13] [⟨none,.mv (.v 11)⟩,⟨none,.dyn (.k (.fn 119 [])) [(.t 0)]⟩,⟨none,.mv (.t 1)⟩,⟨none,.ext 0 (.t 2)⟩,⟨none,.ext 1 (.t 2)⟩,⟨none,.alc [.int .i64 0,.nils (.int .i64 0)]⟩,⟨none,.stn 2 (.t 5) (.t 3)⟩,⟨none,.asg 14 (.t 4)⟩] [(13,5)]) (.seq (.ops [15] [⟨none,.mv (.v 12)⟩,⟨none,.dyn (.k (.fn 119 [])) [(.t 0)]⟩,⟨none,.mv (.t 1)⟩,⟨none,.ext 0 (.t 2)⟩,⟨none,.ext 1 (.t 2)⟩,⟨none,.alc [.int .i64 0,.nils (.int .i64 0)]⟩,⟨none,.stn 2 (.t 5) (.t 3)⟩,⟨none,.asg 16 (.t 4)⟩] [(15,5)]) (.seq (.seq (.ops [] [⟨none,.mv (.v 14)⟩,⟨none,.mv (.v 16)⟩,⟨none,.bldS (.nifc) 2 [(0,(.t 0)),(1,(.t 1))]⟩,⟨none,.dyn (.k (.fn 120 [])) [(.t 2)]⟩,⟨none,.asg 17 (.t 3)⟩] []) (.opc [] [⟨none,.mv (.v 17)⟩,⟨none,.nilI true (.t 0)⟩] [] (.t 1) (.seq (.ops [] [⟨none,.bld [.int .i64 0,.nils (.int .i64 0),.nils (.int .i64 0),.nils (.agg [.int .i64 0,ints []]),.nils (.agg [.int .i64 0,ints []])] []⟩,⟨none,.mv (.v 17)⟩,⟨none,.stn 5 (.v 1) (.t 0)⟩,⟨none,.asg 2 (.t 1)⟩] []) .ret) .skip)) (.seq (.ops [] [⟨none,.fA 3 (.v 6)⟩,⟨none,.ld (.t 0)⟩,⟨none,.lda 2 (.v 13)⟩,⟨none,.bldS (.agg [.int .i64 0,ints []]) 1 [(0,(.t 2))]⟩,⟨none,.app 2 32 (.t 1) (.t 3)⟩,⟨none,.fA 3 (.v 6)⟩,⟨none,.st (.t 5) (.t 4)⟩] []) (.ops [] [⟨none,.fA 4 (.v 6)⟩,⟨none,.ld (.t 0)⟩,⟨none,.lda 2 (.v 15)⟩,⟨none,.bldS (.agg [.int .i64 0,ints []]) 1 [(0,(.t 2))]⟩,⟨none,.app 2 32 (.t 1) (.t 3)⟩,⟨none,.fA 4 (.v 6)⟩,⟨none,.st (.t 5) (.t 4)⟩] [])))))))) (.ops [] [⟨none,.bin .add (.v 23) (.i 1)⟩,⟨none,.asg 23 (.t 0)⟩] [])))))) (.seq (.ops [] [⟨none,.lda 5 (.v 6)⟩,⟨none,.stn 5 (.v 1) (.t 0)⟩,⟨none,.asg 2 (.k .nifc)⟩] []) .ret)))))))))
def tr_impl_parseSchema:List Nat:=[0,2,3,4,5,6,7,9,10,11,13,14,15,17,18,19,20,21,45,46,47,81,82,83]
def rs_impl_parseSchema:List RS:=[.c 1 5 true,.t 2]
theorem ok_impl_parseSchema:fnOk Go.Proofs.Tryz.prog Go.Proofs.Tryz.f101 tr_impl_parseSchema c_impl_parseSchema 1 rs_impl_parseSchema=true:=by decide +kernel
theorem ret_impl_parseSchema (t:List UInt8) (ht:t.length≤4294966000):RetE Go.Proofs.Tryz.prog 101 [.str t] [] (SchQ t):=by
 have no:∀ e,SErr e→(∀ q:Sch,q.ok=true→t≠q.txt)→SchQ t (.o (.tup [Sch.d Sch.zero,e])) []:=fun e he h=>⟨rfl,Sch.zero,e,rfl,.inr he,fun q h1 h2=>absurd h2 (h q h1)⟩
 refine ret_fnE .tree Go.Proofs.Tryz.func101 rfl ok_impl_parseSchema rfl ⟨by simp only [List.length_cons,List.length_nil];decide,by simp only [List.length_nil];decide⟩ rfl ?_;unfold c_impl_parseSchema tr_impl_parseSchema rs_impl_parseSchema;simp only [go_sem,Nat.reduceLT,Nat.reduceAdd,Nat.reduceSub,↓reduceIte]
 refine call_of (ret_spl (by decide) (by omega)) rfl (.inl (nv_strs _)) ?_
 have hps:∀ q:Sch,q.ok=true→t=q.txt→spl [32,124,32] 0 t=[Lib.itoa q.nd,partF (q.edL q.fr.length),partF (q.eqL q.lf.length)]:=fun q h1 h2=>by rw [h2];exact parts_txt (tok_of h1)
 have hpl:∀ x∈spl [32,124,32] 0 t,x.length≤t.length:=fun x hx=>spl_mem hx
 generalize spl [32,124,32] 0 t=ps at hps hpl
 simp only [go_sem,Nat.reduceLT,Nat.reduceAdd,Nat.reduceSub,Nat.reduceEqDiff,Nat.reduceLeDiff,↓reduceIte]
 refine ⟨fun h=>⟨_,_,no eS .one (fun q h1 h2=>by rw [hps q h1 h2] at h;simp at h),rfl,rfl,trivial⟩,fun h=>?_⟩
 have h3:ps.length=3:=by have:(ps.length:Int)=3:=by simpa using h
                         omega
 obtain ⟨p0,p1,p2,rfl⟩:∃ p0 p1 p2,ps=[p0,p1,p2]:=by
  match ps,h3 with
  | [a,b,c],_=>exact ⟨a,b,c,rfl⟩
 clear h h3
 have l1:=hpl p1 (by simp)
 have l2:=hpl p2 (by simp)
 simp only [go_sem,Nat.reduceAdd]
 refine ⟨by decide,call_of (ret_impl_digits _) rfl (.inr trivial) ?_⟩
 have hdq:∀ q:Sch,q.ok=true→t=q.txt→numO 6 p0=some q.nd.toNat∧p1=partF (q.edL q.fr.length)∧p2=partF (q.eqL q.lf.length):=fun q h1 h2=>by
  have h3:=hps q h1 h2
  simp only [List.cons.injEq,and_true] at h3
  have:=(tok_of h1).nd
  exact ⟨by rw [h3.1];exact itoa_num this.1 (by rw [itoa_small this.1 (by omega)];decide),h3.2.1,h3.2.2⟩
 clear hps hpl
 cases hd:numO 6 p0 with
 | none =>
  rw [hd] at hdq
  simp only [dgtD]
  simp only [go_sem,Nat.reduceLT,Nat.reduceAdd,Nat.reduceSub,Nat.reduceEqDiff,Nat.reduceBEq,↓reduceIte]
  exact ⟨_,_,no eS .one (fun q h1 h2=>by have:=(hdq q h1 h2).1;cases this),rfl,rfl,trivial⟩
 | some n =>
  rw [hd] at hdq
  simp only [dgtD]
  simp only [go_sem,Nat.reduceLT,Nat.reduceAdd,Nat.reduceSub,Nat.reduceEqDiff,Nat.reduceBEq,↓reduceIte]
  refine ⟨by decide,call_of (ret_impl_words _ (by omega)) rfl (.inl (nv_strs _)) ?_⟩
  have hw1:∀ q:Sch,q.ok=true→t=q.txt→wordsF p1=q.edL q.fr.length:=fun q h1 h2=>by rw [(hdq q h1 h2).2.1];exact words_ed (tok_of h1)
  have hn1:(wordsF p1).length≤p1.length+1∧∀ x∈wordsF p1,x.length≤p1.length:=by
   unfold wordsF
   split
   ·exact ⟨by simp,fun x hx=>by cases hx⟩
   ·exact ⟨spl_len,fun x hx=>spl_mem hx⟩
  generalize wordsF p1=ws at hw1 hn1
  simp only [go_sem,Nat.reduceLT,Nat.reduceAdd,Nat.reduceSub,Nat.reduceBEq,↓reduceIte]
  refine loop_set [7,8,9] (fun (p:Nat×List Int×List Int)=>[(6,.box [.int .i64 n,.o (ints p.2.1),.o (ints p.2.2),.o (lst Pth.d Pth.zero []),.o (lst Pth.d Pth.zero [])]),(20,.int .i64 p.1)]) (fun p=>p.1≤ws.length∧p.2.1.length=p.1∧p.2.2.length=p.1∧∀ q:Sch,q.ok=true→t=q.txt→p.2.1=q.fr.take p.1∧p.2.2=q.to.take p.1) (fun p=>ws.length-p.1) (0,[],[]) (by simp only [go_sem,Nat.reduceLT,↓reduceIte];rfl) ⟨Nat.zero_le _,rfl,rfl,fun _ _ _=>⟨rfl,rfl⟩⟩ rfl ?_
  rintro ⟨i,fr,to⟩ ⟨hi,hf,ht2,hq⟩
  simp only at hi hf ht2 hq
  simp only [go_sem,Nat.reduceLT,Nat.reduceAdd,Nat.reduceSub,Nat.reduceBEq,Nat.reduceLeDiff,↓reduceIte]
  refine ⟨fun h=>⟨h,?_⟩,fun h=>?_⟩
  ·have hx:ws.getD i []∈ws:=by rw [getD_lt h];exact List.getElem_mem _
   have hxl:=hn1.2 _ hx
   refine g_call [1001] false (ret_impl_split (ws.getD i []) (by omega)) (by exact ⟨by decide,rfl⟩) (by repeat (first | exact trivial | refine ⟨rfl,?_⟩)) (by repeat (first | exact trivial | refine ⟨.inl rfl,?_⟩ | refine ⟨.inr ⟨rfl,rfl⟩,?_⟩)) (by repeat (first | exact trivial | refine ⟨(fun h=>by cases h),?_⟩)) (fun h=>by cases h) ?_
   cases hs:splitF (ws.getD i []) with
   | none =>
    simp only [splD]
    simp only [go_sem,Nat.reduceLT,Nat.reduceAdd,Nat.reduceSub,Nat.reduceEqDiff,Nat.reduceBEq,Nat.reduceLeDiff,↓reduceIte]
    refine ⟨_,_,no eS .one (fun q h1 h2=>?_),rfl,rfl,trivial⟩
    have hw:=hw1 q h1 h2
    rw [hw,edL_get (by rw [hw,edL_len] at h;exact h),split_ed (tok_of h1) (by rw [hw,edL_len] at h;exact h)] at hs
    cases hs
   | some ab =>
    obtain ⟨a,b⟩:=ab
    simp only [splD]
    simp only [go_sem,Nat.reduceLT,Nat.reduceAdd,Nat.reduceSub,Nat.reduceEqDiff,Nat.reduceBEq,Nat.reduceLeDiff,↓reduceIte]
    refine ⟨by decide,by omega,by decide,by omega,(i+1,fr++[(a:Int)],to++[(b:Int)]),⟨h,by simp [hf],by simp [ht2],fun q h1 h2=>?_⟩,by show ws.length-(i+1)<_;omega,by rw [wrap_small (by omega) (by omega)];rfl⟩
    have hw:=hw1 q h1 h2
    have hlt:i<q.fr.length:=by rw [hw,edL_len] at h;exact h
    have hT:=tok_of h1
    obtain ⟨a1,b1⟩:=hT.ed i hlt
    rw [hw,edL_get hlt,split_ed hT hlt] at hs
    simp only [Option.some.injEq,Prod.mk.injEq] at hs
    obtain ⟨q1,q2⟩:=hq q h1 h2
    show fr++_=q.fr.take (i+1)∧to++_=q.to.take (i+1)
    rw [take_snoc hlt 0,take_snoc (by rw [hT.to];exact hlt) 0,q1,q2,← hs.1,← hs.2,Int.toNat_of_nonneg a1.1,Int.toNat_of_nonneg b1.1]
    exact ⟨rfl,rfl⟩
  ·refine ⟨by decide,?_⟩
   have e3:([p0,p1,p2]:List (List UInt8)).getD (Int.toNat 2) []=p2:=rfl
   rw [e3]
   refine call_of (ret_impl_words _ (by omega)) rfl (.inl (nv_strs _)) ?_
   have hqf:∀ q:Sch,q.ok=true→t=q.txt→fr=q.fr∧to=q.to:=fun q h1 h2=>by
    obtain ⟨q1,q2⟩:=hq q h1 h2
    have hw:=hw1 q h1 h2
    rw [hw,edL_len] at h hi
    have:=(tok_of h1).to
    rw [List.take_of_length_le (by omega)] at q1 q2
    exact ⟨q1,q2⟩
   have hw2:∀ q:Sch,q.ok=true→t=q.txt→wordsF p2=q.eqL q.lf.length:=fun q h1 h2=>by rw [(hdq q h1 h2).2.2];exact words_eq (tok_of h1)
   have hn2:(wordsF p2).length≤p2.length+1∧∀ x∈wordsF p2,x.length≤p2.length:=by
    unfold wordsF
    split
    ·exact ⟨by simp,fun x hx=>by cases hx⟩
    ·exact ⟨spl_len,fun x hx=>spl_mem hx⟩
   have hdn:∀ q:Sch,q.ok=true→t=q.txt→(n:Int)=q.nd:=fun q h1 h2=>by
    have h3:=(hdq q h1 h2).1
    have:=(tok_of h1).nd
    injection h3 with h3
    omega
   clear hdq hq hw1 hn1
   generalize wordsF p2=vs at hw2 hn2
   simp only [go_sem,Nat.reduceLT,Nat.reduceAdd,Nat.reduceSub,Nat.reduceBEq,Nat.reduceLeDiff,↓reduceIte]
   refine loop_set [10,11,12,13,14,15,16,17] (fun (p:Nat×List Pth×List Pth)=>[(6,.box [.int .i64 n,.o (ints fr),.o (ints to),.o (lst Pth.d Pth.zero p.2.1),.o (lst Pth.d Pth.zero p.2.2)]),(23,.int .i64 p.1)]) (fun p=>p.1≤vs.length∧p.2.1.length=p.1∧p.2.2.length=p.1∧∀ q:Sch,q.ok=true→t=q.txt→p.2.1=q.lf.take p.1∧p.2.2=q.rt.take p.1) (fun p=>vs.length-p.1) (0,[],[]) (by simp only [go_sem,Nat.reduceLT,↓reduceIte];rfl) ⟨Nat.zero_le _,rfl,rfl,fun _ _ _=>⟨rfl,rfl⟩⟩ rfl ?_
   rintro ⟨j,lf,rt⟩ ⟨hj,hlf,hrt,hq⟩
   simp only at hj hlf hrt hq
   simp only [go_sem,Nat.reduceLT,Nat.reduceAdd,Nat.reduceSub,Nat.reduceEqDiff,Nat.reduceBEq,Nat.reduceLeDiff,↓reduceIte]
   refine ⟨fun h2=>⟨h2,?_⟩,fun h2=>?_⟩
   ·have hx:vs.getD j []∈vs:=by rw [getD_lt h2];exact List.getElem_mem _
    have hxl:=hn2.2 _ hx
    refine call_of (ret_cut (by omega)) rfl (.inl rfl) ?_
    have hc:(Lib.cut (vs.getD j []) [61]).1.length≤t.length∧(Lib.cut (vs.getD j []) [61]).2.1.length≤t.length:=by
     unfold Lib.cut
     split
     ·exact ⟨by simp only [List.length_take];omega,by simp only [List.length_drop];omega⟩
     ·exact ⟨by show (vs.getD j []).length≤_;omega,by simp⟩
    have hcq:∀ q:Sch,q.ok=true→t=q.txt→j<q.lf.length∧(Lib.cut (vs.getD j []) [61]).1=(q.lf.getD j Pth.zero).txt∧(Lib.cut (vs.getD j []) [61]).2.1=(q.rt.getD j Pth.zero).txt:=fun q h3 h4=>by
     have hw:=hw2 q h3 h4
     have hlt:j<q.lf.length:=by rw [hw,eqL_len] at h2;exact h2
     rw [hw,eqL_get hlt,cut_eq (tok_of h3) hlt]
     exact ⟨hlt,rfl,rfl⟩
    generalize Lib.cut (vs.getD j []) [61]=cc at hc hcq
    simp only [go_sem,Nat.reduceLT,Nat.reduceAdd,Nat.reduceSub,↓reduceIte]
    refine e_call [] false (ret_impl_parsePath cc.1 (by omega)) (by exact ⟨by decide,rfl⟩) (by repeat (first | exact trivial | refine ⟨rfl,?_⟩)) (by repeat (first | exact trivial | refine ⟨.inl rfl,?_⟩ | refine ⟨.inr ⟨rfl,rfl⟩,?_⟩)) ?_
    rintro _ _ ⟨rfl,p,e1,rfl,hp⟩
    refine ⟨(by repeat (first | exact trivial | refine ⟨(fun h=>by cases h),?_⟩)),(fun h=>by cases h),?_⟩
    have hpp:∀ q:Sch,q.ok=true→t=q.txt→j<q.lf.length∧p=q.lf.getD j Pth.zero∧e1=false:=fun q h3 h4=>by
     obtain ⟨a1,a2,a3⟩:=hcq q h3 h4
     exact ⟨a1,hp _ ((tok_of h3).eq j a1).1 a2⟩
    cases e1<;>simp only [errD]<;>simp only [go_sem,Nat.reduceLT,Nat.reduceAdd,Nat.reduceSub,Nat.reduceEqDiff,Nat.reduceBEq,Nat.reduceLeDiff,↓reduceIte]
    all_goals
     refine e_call [] false (ret_impl_parsePath cc.2.1 (by omega)) (by exact ⟨by decide,rfl⟩) (by repeat (first | exact trivial | refine ⟨rfl,?_⟩)) (by repeat (first | exact trivial | refine ⟨.inl rfl,?_⟩ | refine ⟨.inr ⟨rfl,rfl⟩,?_⟩)) ?_
     rintro _ _ ⟨rfl,p',e2,rfl,hp2⟩
     refine ⟨(by repeat (first | exact trivial | refine ⟨(fun h=>by cases h),?_⟩)),(fun h=>by cases h),?_⟩
     have hpp2:∀ q:Sch,q.ok=true→t=q.txt→p'=q.rt.getD j Pth.zero∧e2=false:=fun q h3 h4=>by
      obtain ⟨a1,a2,a3⟩:=hcq q h3 h4
      exact hp2 _ ((tok_of h3).eq j a1).2 a3
     cases e2<;>simp only [errD]<;>simp only [go_sem,Nat.reduceLT,Nat.reduceAdd,Nat.reduceSub,Nat.reduceEqDiff,Nat.reduceBEq,Nat.reduceLeDiff,↓reduceIte]
    ·refine g_call [1002] false (ret_joinG (a:=false) (b:=false)) (by exact ⟨by decide,rfl⟩) (by repeat (first | exact trivial | refine ⟨rfl,?_⟩)) (by repeat (first | exact trivial | refine ⟨.inl rfl,?_⟩ | refine ⟨.inr ⟨rfl,rfl⟩,?_⟩)) (by repeat (first | exact trivial | refine ⟨(fun h=>by cases h),?_⟩)) (fun h=>by cases h) ?_
     simp only [joinE]
     simp only [go_sem,Nat.reduceLT,Nat.reduceAdd,Nat.reduceSub,Nat.reduceEqDiff,Nat.reduceBEq,Nat.reduceLeDiff,↓reduceIte]
     refine ⟨by omega,by omega,(j+1,lf++[p],rt++[p']),⟨h2,by simp [hlf],by simp [hrt],fun q h3 h4=>?_⟩,by show vs.length-(j+1)<_;omega,by rw [wrap_small (by omega) (by omega)];rfl⟩
     obtain ⟨a1,a2,_⟩:=hpp q h3 h4
     obtain ⟨a3,_⟩:=hpp2 q h3 h4
     obtain ⟨q1,q2⟩:=hq q h3 h4
     show lf++_=q.lf.take (j+1)∧rt++_=q.rt.take (j+1)
     rw [take_snoc a1 Pth.zero,take_snoc (by rw [(tok_of h3).rt];exact a1) Pth.zero,q1,q2,a2,a3]
     exact ⟨rfl,rfl⟩
    ·refine g_call [1002] false (ret_joinG (a:=false) (b:=true)) (by exact ⟨by decide,rfl⟩) (by repeat (first | exact trivial | refine ⟨rfl,?_⟩)) (by repeat (first | exact trivial | refine ⟨.inl rfl,?_⟩ | refine ⟨.inr ⟨rfl,rfl⟩,?_⟩)) (by repeat (first | exact trivial | refine ⟨(fun h=>by cases h),?_⟩)) (fun h=>by cases h) ?_
     simp only [joinE,joinD]
     simp only [go_sem,Nat.reduceLT,Nat.reduceAdd,Nat.reduceSub,Nat.reduceEqDiff,Nat.reduceBEq,Nat.reduceLeDiff,↓reduceIte]
     exact ⟨_,_,no (joinE false true) (.join rfl) (fun q h3 h4=>by have:=(hpp2 q h3 h4).2;cases this),rfl,rfl,trivial⟩
    ·refine g_call [1002] false (ret_joinG (a:=true) (b:=false)) (by exact ⟨by decide,rfl⟩) (by repeat (first | exact trivial | refine ⟨rfl,?_⟩)) (by repeat (first | exact trivial | refine ⟨.inl rfl,?_⟩ | refine ⟨.inr ⟨rfl,rfl⟩,?_⟩)) (by repeat (first | exact trivial | refine ⟨(fun h=>by cases h),?_⟩)) (fun h=>by cases h) ?_
     simp only [joinE,joinD]
     simp only [go_sem,Nat.reduceLT,Nat.reduceAdd,Nat.reduceSub,Nat.reduceEqDiff,Nat.reduceBEq,Nat.reduceLeDiff,↓reduceIte]
     exact ⟨_,_,no (joinE true false) (.join rfl) (fun q h3 h4=>by have:=(hpp q h3 h4).2.2;cases this),rfl,rfl,trivial⟩
    ·refine g_call [1002] false (ret_joinG (a:=true) (b:=true)) (by exact ⟨by decide,rfl⟩) (by repeat (first | exact trivial | refine ⟨rfl,?_⟩)) (by repeat (first | exact trivial | refine ⟨.inl rfl,?_⟩ | refine ⟨.inr ⟨rfl,rfl⟩,?_⟩)) (by repeat (first | exact trivial | refine ⟨(fun h=>by cases h),?_⟩)) (fun h=>by cases h) ?_
     simp only [joinE,joinD]
     simp only [go_sem,Nat.reduceLT,Nat.reduceAdd,Nat.reduceSub,Nat.reduceEqDiff,Nat.reduceBEq,Nat.reduceLeDiff,↓reduceIte]
     exact ⟨_,_,no (joinE true true) (.join rfl) (fun q h3 h4=>by have:=(hpp q h3 h4).2.2;cases this),rfl,rfl,trivial⟩
   ·refine ⟨_,_,⟨rfl,⟨n,fr,to,lf,rt⟩,.nifc,rfl,.inl rfl,fun q h3 h4=>⟨?_,rfl⟩⟩,rfl,rfl,trivial⟩
    obtain ⟨a1,a2⟩:=hqf q h3 h4
    obtain ⟨a3,a4⟩:=hq q h3 h4
    have hw:=hw2 q h3 h4
    have:=(tok_of h3).rt
    rw [hw,eqL_len] at h2
    rw [List.take_of_length_le (by omega)] at a3 a4
    rw [a1,a2,a3,a4,hdn q h3 h4]
end Go.D3
namespace Go.D3
open Go
set_option maxRecDepth 100000
set_option maxHeartbeats 4000000
noncomputable def psO (t:List UInt8):Option Sch:=by
 classical
 exact if h:∃ q:Sch,q.ok=true∧t=q.txt then some h.choose else none
theorem psO_none {t:List UInt8} (h:∀ q:Sch,q.ok=true→t≠q.txt):psO t=none:=by
 unfold psO
 rw [dif_neg]
 rintro ⟨q,h1,h2⟩
 exact h q h1 h2
theorem psO_some {t:List UInt8} {s:Sch} (h:s.ok=true) (ht:t=s.txt) (hu:∀ q:Sch,q.ok=true→t=q.txt→s=q):psO t=some s:=by
 unfold psO
 have hh:∃ q:Sch,q.ok=true∧t=q.txt:=⟨s,h,ht⟩
 rw [dif_pos hh,hu _ hh.choose_spec.1 hh.choose_spec.2]
theorem psO_ok {t:List UInt8} {s:Sch} (h:psO t=some s):s.ok=true∧t=s.txt:=by
 unfold psO at h
 split at h
 ·rename_i hh
  injection h with h
  rw [← h];exact hh.choose_spec
 ·cases h
def psD:Option Sch→D
 | some s=>.tup [Sch.d s,.int .i64 0]
 | none=>.tup [Sch.d Sch.zero,.int .i64 6]
theorem psD_nv (o:Option Sch):(psD o).novw=true:=by cases o<;>simp only [psD,D.novw,novwL,nv_Sch,Bool.and_self]
theorem joinE_cons {a b:Bool} (h:(a || b)=true):∃ r,joinE a b=joinD (eS::r):=by
 match a,b,h with
 | false,false,h=>cases h
 | false,true,_=>exact ⟨[],rfl⟩
 | true,false,_=>exact ⟨[],rfl⟩
 | true,true,_=>exact ⟨[eS],rfl⟩
def c_impl_ParseSchema:C := (.seq (.ops [1] [⟨none,.alc [.int .i64 0,.nils (.int .i64 0),.nils (.int .i64 0),.nils (.agg [.int .i64 0,ints []]),.nils (.agg [.int .i64 0,ints []])]⟩,⟨none,.asg 2 (.i 0)⟩] [(1,0)]) (.seq (.ops [3] [⟨none,.mv (.v 0)⟩,⟨none,.dyn (.k (.fn 101 [])) [(.t 0)]⟩,⟨none,.mv (.t 1)⟩,⟨none,.ext 0 (.t 2)⟩,⟨none,.ext 1 (.t 2)⟩,⟨none,.alc [.int .i64 0,.nils (.int .i64 0),.nils (.int .i64 0),.nils (.agg [.int .i64 0,ints []]),.nils (.agg [.int .i64 0,ints []])]⟩,⟨none,.stn 5 (.t 5) (.t 3)⟩,⟨none,.asg 4 (.t 4)⟩] [(3,5)]) (.seq (.opc [] [⟨none,.mv (.v 4)⟩,⟨none,.ld (.g 0)⟩,⟨none,.call 102 [(.t 0),(.t 1)]⟩,⟨none,.mv (.t 2)⟩,⟨some (3,false),.call 103 [(.v 3)]⟩,⟨some (3,false),.not (.t 4)⟩,⟨none,.pick (.t 3) (.k (.bool true)) (.t 5)⟩,⟨none,.mv (.t 6)⟩,⟨some (7,false),.call 49 [(.v 3)]⟩,⟨some (7,false),.mv (.v 0)⟩,⟨some (7,false),.bin .neq (.t 8) (.t 9)⟩,⟨none,.pick (.t 7) (.k (.bool true)) (.t 10)⟩] [] (.t 11) (.seq (.ops [] [⟨none,.bld [.int .i64 0,.nils (.int .i64 0),.nils (.int .i64 0),.nils (.agg [.int .i64 0,ints []]),.nils (.agg [.int .i64 0,ints []])] []⟩,⟨none,.stn 5 (.v 1) (.t 0)⟩,⟨none,.asg 2 (.i 6)⟩] []) .ret) .skip) (.seq (.ops [] [⟨none,.lda 5 (.v 3)⟩,⟨none,.stn 5 (.v 1) (.t 0)⟩,⟨none,.asg 2 (.i 0)⟩] []) .ret))))
def tr_impl_ParseSchema:List Nat:=[0,2,3,4,5]
def rs_impl_ParseSchema:List RS:=[.c 1 5 true,.t 2]
theorem ok_impl_ParseSchema:fnOk Go.Proofs.Tryz.prog Go.Proofs.Tryz.f83 tr_impl_ParseSchema c_impl_ParseSchema 1 rs_impl_ParseSchema=true:=by decide +kernel
theorem ret_impl_ParseSchema (t:List UInt8) (ht:t.length≤4294966000):Ret Go.Proofs.Tryz.prog 83 [.v (.str t)] (psD (psO t)):=by
 refine ret_fn Go.Proofs.Tryz.func83 ok_impl_ParseSchema rfl (show 1<500 by decide) rfl ?_;unfold c_impl_ParseSchema tr_impl_ParseSchema rs_impl_ParseSchema;simp only [go_sem,Nat.reduceLT,Nat.reduceAdd,Nat.reduceSub,↓reduceIte]
 refine e_call [] false (ret_impl_parseSchema t ht) (by exact ⟨by decide,rfl⟩) (by repeat (first | exact trivial | refine ⟨rfl,?_⟩)) (by repeat (first | exact trivial | refine ⟨.inl rfl,?_⟩ | refine ⟨.inr ⟨rfl,rfl⟩,?_⟩)) ?_
 rintro _ _ ⟨rfl,s,e,rfl,he,hq⟩
 refine ⟨(by repeat (first | exact trivial | refine ⟨(fun h=>by cases h),?_⟩)),(fun h=>by cases h),?_⟩
 have bad:SErr e→psO t=none:=fun h=>psO_none fun q h1 h2=>by
  have:=(hq q h1 h2).2
  cases h with
  | one=>cases this
  | @join a b hab =>
   obtain ⟨r,hj⟩:=joinE_cons hab
   rw [hj] at this
   cases this
 rcases he with rfl | he
 ·simp only [go_sem,Nat.reduceLT,Nat.reduceAdd,Nat.reduceSub,Nat.reduceEqDiff,Nat.reduceBEq,Nat.reduceLeDiff,↓reduceIte]
  refine call_of ret_isNil rfl (.inl rfl) ?_
  simp only [go_sem,Nat.reduceLT,Nat.reduceAdd,Nat.reduceSub,↓reduceIte]
  refine callg_of (fun _=>ret_impl_Schema_isSchema s) rfl (fun h=>h) (.inl rfl) ?_
  simp only [go_sem,Nat.reduceLT,Nat.reduceAdd,Nat.reduceSub,↓reduceIte]
  cases hok:s.ok with
  | false =>
   rw [psO_none fun q h1 h2=>by have:=(hq q h1 h2).1;rw [this] at hok;rw [hok] at h1;cases h1]
   simp only [go_sem]
   refine callg_of (res:=.str []) (fun h=>by cases h) rfl (fun h=>by cases h) (.inl rfl) ?_
   simp only [go_sem,Nat.reduceLT,Nat.reduceAdd,Nat.reduceSub,Nat.reduceEqDiff,Nat.reduceBEq,Nat.reduceLeDiff,↓reduceIte]
   rfl
  | true =>
   simp only [go_sem]
   refine callg_of (fun _=>ret_impl_Schema_text s (tok_of hok)) rfl (fun h=>h) (.inl rfl) ?_
   simp only [go_sem,Nat.reduceLT,Nat.reduceAdd,Nat.reduceSub,Nat.reduceEqDiff,Nat.reduceBEq,Nat.reduceLeDiff,↓reduceIte]
   refine ⟨fun h=>?_,fun h=>?_⟩
   ·rw [psO_none fun q h1 h2=>by have:=(hq q h1 h2).1;rw [this,← h2] at h;simp at h]
    rfl
   ·rw [psO_some hok (by simpa using Eq.symm (by simpa using h)) fun q h1 h2=>(hq q h1 h2).1]
    rfl
 ·rw [bad he]
  cases he with
  | one =>
   simp only [go_sem,Nat.reduceLT,Nat.reduceAdd,Nat.reduceSub,Nat.reduceEqDiff,Nat.reduceBEq,Nat.reduceLeDiff,↓reduceIte]
   refine call_of ret_isSame rfl (.inl rfl) ?_
   simp only [go_sem,Nat.reduceLT,Nat.reduceAdd,Nat.reduceSub,↓reduceIte]
   refine callg_of (res:=.bool false) (fun h=>by cases h) rfl (fun h=>by cases h) (.inl rfl) ?_
   simp only [go_sem,Nat.reduceLT,Nat.reduceAdd,Nat.reduceSub,↓reduceIte]
   refine callg_of (res:=.str []) (fun h=>by cases h) rfl (fun h=>by cases h) (.inl rfl) ?_
   simp only [go_sem,Nat.reduceLT,Nat.reduceAdd,Nat.reduceSub,Nat.reduceEqDiff,Nat.reduceBEq,Nat.reduceLeDiff,↓reduceIte]
   rfl
  | @join a b hab =>
   obtain ⟨r,hj⟩:=joinE_cons hab
   rw [hj]
   simp only [joinD]
   simp only [go_sem,Nat.reduceLT,Nat.reduceAdd,Nat.reduceSub,Nat.reduceEqDiff,Nat.reduceBEq,Nat.reduceLeDiff,↓reduceIte]
   refine call_of (ret_isJoin (r:=r)) rfl (.inl rfl) ?_
   simp only [go_sem,Nat.reduceLT,Nat.reduceAdd,Nat.reduceSub,↓reduceIte]
   refine callg_of (res:=.bool false) (fun h=>by cases h) rfl (fun h=>by cases h) (.inl rfl) ?_
   simp only [go_sem,Nat.reduceLT,Nat.reduceAdd,Nat.reduceSub,↓reduceIte]
   refine callg_of (res:=.str []) (fun h=>by cases h) rfl (fun h=>by cases h) (.inl rfl) ?_
   simp only [go_sem,Nat.reduceLT,Nat.reduceAdd,Nat.reduceSub,Nat.reduceEqDiff,Nat.reduceBEq,Nat.reduceLeDiff,↓reduceIte]
   rfl
end Go.D3
namespace Go.D3
open Go
set_option maxRecDepth 100000
theorem fol_map {fr to:List Int}:∀ {l:List Int} {x:Int},mapB fr.length l=false→fol fr to x l=none
 | [],x,h=>by cases h
 | e::l,x,h=>by
  rw [fol]
  split
  ·rename_i hc
   simp only [Bool.and_eq_true,inR,decide_eq_true_eq] at hc
   refine fol_map ?_
   unfold mapB at h ⊢
   rw [List.all_cons,Bool.and_eq_false_iff] at h
   rcases h with h | h
   ·simp at h;omega
   ·exact h
  ·rfl
def c_spec_l36Path:C := (.seq (.ops [3,4] [⟨none,.boxv 5 (.v 0)⟩,⟨none,.boxv 2 (.v 1)⟩,⟨none,.asg 2 (.k (.bool false))⟩] [(3,0),(4,1)]) (.seq (.opc [] [⟨none,.fA 0 (.v 4)⟩,⟨none,.ld (.t 0)⟩,⟨none,.fA 0 (.v 3)⟩,⟨none,.ld (.t 2)⟩,⟨none,.bin .sub (.t 3) (.i 1)⟩,⟨none,.call 30 [(.t 1),(.i 0),(.t 4)]⟩,⟨none,.not (.t 5)⟩,⟨none,.mv (.t 6)⟩,⟨some (7,false),.fA 1 (.v 4)⟩,⟨some (7,false),.ld (.t 8)⟩,⟨some (7,false),.len (.t 9)⟩,⟨some (7,false),.bin .gtr (.t 10) (.i 6)⟩,⟨none,.pick (.t 7) (.k (.bool true)) (.t 11)⟩,⟨none,.mv (.t 12)⟩,⟨some (13,false),.fA 1 (.v 3)⟩,⟨some (13,false),.ld (.t 14)⟩,⟨some (13,false),.len (.t 15)⟩,⟨some (13,false),.fA 1 (.v 4)⟩,⟨some (13,false),.ld (.t 17)⟩,⟨some (13,false),.call 96 [(.t 16),(.t 18)]⟩,⟨some (13,false),.not (.t 19)⟩,⟨none,.pick (.t 13) (.k (.bool true)) (.t 20)⟩] [] (.t 21) (.seq (.ops [] [⟨none,.asg 2 (.k (.bool false))⟩] []) .ret) .skip) (.seq (.ops [] [⟨none,.fA 0 (.v 4)⟩,⟨none,.ld (.t 0)⟩,⟨none,.asg 5 (.t 1)⟩] []) (.seq (.seq (.ops [] [⟨none,.asg 6 (.i 0)⟩] []) (.block 0 (.loop (.seq (.opc [] [⟨none,.mv (.v 6)⟩,⟨none,.fA 1 (.v 4)⟩,⟨none,.ld (.t 1)⟩,⟨none,.len (.t 2)⟩,⟨none,.bin .lss (.t 0) (.t 3)⟩] [] (.t 4) .skip (.exit 0)) (.seq (.block 1 (.seq (.opc [] [⟨none,.fA 1 (.v 3)⟩,⟨none,.ld (.t 0)⟩,⟨none,.fA 1 (.v 4)⟩,⟨none,.ld (.t 2)⟩,⟨none,.mv (.v 6)⟩,⟨none,.idxA 1 (.t 3) (.t 4)⟩,⟨none,.ld (.t 5)⟩,⟨none,.idxA 1 (.t 1) (.t 6)⟩,⟨none,.ld (.t 7)⟩,⟨none,.mv (.v 5)⟩,⟨none,.bin .neq (.t 8) (.t 9)⟩] [] (.t 10) (.seq (.ops [] [⟨none,.asg 2 (.k (.bool false))⟩] []) .ret) .skip) (.ops [] [⟨none,.fA 2 (.v 3)⟩,⟨none,.ld (.t 0)⟩,⟨none,.fA 1 (.v 4)⟩,⟨none,.ld (.t 2)⟩,⟨none,.mv (.v 6)⟩,⟨none,.idxA 1 (.t 3) (.t 4)⟩,⟨none,.ld (.t 5)⟩,⟨none,.idxA 1 (.t 1) (.t 6)⟩,⟨none,.ld (.t 7)⟩,⟨none,.asg 5 (.t 8)⟩] []))) (.ops [] [⟨none,.mv (.v 6)⟩,⟨none,.bin .add (.t 0) (.i 1)⟩,⟨none,.asg 6 (.t 1)⟩] [])))))) (.seq (.ops [] [⟨none,.asg 2 (.k (.bool true))⟩] []) .ret)))))
def tr_spec_l36Path:List Nat:=[0,1,4,2,3,5,6]
def rs_spec_l36Path:List RS:=[.t 2]
theorem ok_spec_l36Path:fnOk Go.Proofs.Tryz.prog Go.Proofs.Tryz.f97 tr_spec_l36Path c_spec_l36Path 2 rs_spec_l36Path=true:=by decide +kernel
theorem ret_spec_l36Path (s:Sch) (p:Pth) (hto:s.to.length=s.fr.length) (hn : 0≤s.nd):Ret Go.Proofs.Tryz.prog 97 [.v (Sch.d s),.v (Pth.d p)] (.bool (s.endO p).isSome):=by
 refine ret_wf fun hw=>?_
 simp only [argsWf,wfd_lst,Sch.d,Pth.d,Sch.cells,Pth.cells,D.wfd,wfdL,IntKind.has,IntKind.max,IntKind.signed,IntKind.bits] at hw
 have hn2:s.nd≤9223372036854775807:=by simpa using hw.1.1.2
 have hl:p.ed.length≤maxLen:=hw.2.1.2.1.1
 have hsub:IntKind.i64.wrap (s.nd-1)=s.nd-1:=wrap_of_has ⟨by simp [IntKind.min,IntKind.signed,IntKind.bits];omega,by simp [IntKind.max,IntKind.signed,IntKind.bits];omega⟩
 refine ret_fn Go.Proofs.Tryz.func97 ok_spec_l36Path rfl (show 2<500 by decide) rfl ?_;unfold c_spec_l36Path tr_spec_l36Path rs_spec_l36Path;simp only [go_sem,Nat.reduceLT,Nat.reduceAdd,Nat.reduceSub,↓reduceIte]
 rw [hsub]
 refine call_of (ret_spec_l01In _ _ _) rfl (.inl rfl) ?_
 simp only [go_sem,Nat.reduceLT,Nat.reduceAdd,Nat.reduceSub,↓reduceIte]
 have he:(inR p.st 0 (s.nd-1)&&decide (p.ed.length≤6))=!(!inR p.st 0 (s.nd-1) || decide ((6:Int)<(p.ed.length:Int))):=by
  rw [Bool.not_or,Bool.not_not,← decide_not]
  congr 1
  exact decide_eq_decide.2 (by omega)
 refine ⟨fun h=>by simpa using h,callg_of (fun _=>ret_spec_l01Map _ _) rfl (fun h=>h) (.inl rfl) ?_⟩
 simp only [go_sem,Nat.reduceLT,Nat.reduceAdd,Nat.reduceSub,↓reduceIte]
 refine ⟨(fun h=>by simp only [Bool.or_eq_false_iff,Bool.and_eq_true,Bool.not_eq_true',Bool.not_eq_false'] at h ⊢;exact h),fun h=>?_,fun h=>?_⟩
 ·unfold Sch.endO
  rw [he]
  rw [Bool.or_eq_true,Bool.not_eq_true'] at h
  rcases h with h | h
  ·rw [h];rfl
  ·rw [fol_map h];simp
 ·rw [Bool.or_eq_false_iff,Bool.not_eq_false'] at h
  have hE:s.endO p=fol s.fr s.to p.st p.ed:=by unfold Sch.endO;rw [he,h.1];rfl
  rw [hE]
  have hm:=fun i hi=>mapB_get h.2 (i:=i) hi
  refine loop_set [] (fun (q:Nat×Int)=>[(5,.int .i64 q.2),(6,.int .i64 q.1)]) (fun q=>q.1≤p.ed.length∧fol s.fr s.to q.2 (p.ed.drop q.1)=fol s.fr s.to p.st p.ed) (fun q=>p.ed.length-q.1) (0,p.st) (by simp only [go_sem];rfl) ⟨Nat.zero_le _,rfl⟩ rfl ?_
  rintro ⟨i,y⟩ ⟨hi,ha⟩
  simp only at hi ha
  simp only [go_sem,Nat.reduceLT,Nat.reduceAdd,Nat.reduceSub,↓reduceIte]
  refine ⟨fun h2=>?_,fun h2=>?_⟩
  ·have hmi:=hm i h2
   rw [fol_drop h2] at ha
   have hin:inR (p.ed.getD i 0) 0 ((s.fr.length:Int)-1)=true:=by unfold inR;simp only [Bool.and_eq_true,decide_eq_true_eq];omega
   rw [hin,Bool.true_and] at ha
   refine ⟨h2,hmi,fun h3=>?_,fun h3=>⟨h2,by omega,(i+1,s.to.getD (p.ed.getD i 0).toNat 0),⟨h2,?_⟩,by show p.ed.length-(i+1)<p.ed.length-i;omega,by rw [wrap_lt h2 hl]⟩⟩
   ·rw [bne_iff_ne] at h3
    rw [if_neg (by rw [beq_iff_eq];exact h3)] at ha
    rw [← ha];rfl
   ·rw [bne_eq_false_iff_eq] at h3
    rw [if_pos (by rw [beq_iff_eq];exact h3)] at ha
    exact ha
  ·rw [show i=p.ed.length by omega,List.drop_length] at ha
   rw [← ha];rfl
theorem fol_end {fr to:List Int}:∀ {l:List Int} {x y:Int},fol fr to x l=some y→y=(if l=[] then x else to.getD (l.getD (l.length-1) 0).toNat 0)∧∀ i,i<l.length→0≤l.getD i 0∧l.getD i 0<fr.length
 | [],x,y,h=>by rw [fol] at h;injection h with h;subst h;exact ⟨rfl,fun i hi=>by simp at hi⟩
 | e::l,x,y,h=>by
  rw [fol] at h
  split at h
  ·rename_i hc
   simp only [Bool.and_eq_true,inR,decide_eq_true_eq] at hc
   obtain ⟨h1,h2⟩:=fol_end h
   refine ⟨?_,fun i hi=>?_⟩
   ·rw [if_neg (by simp),h1]
    cases l with
    | nil=>rfl
    | cons f l=>rw [if_neg (by simp)];rfl
   ·cases i with
    | zero=>exact ⟨hc.1.1,by show e<_;omega⟩
    | succ i=>exact h2 i (by simpa using hi)
  ·cases h
def c_spec_l36End:C := (.seq (.ops [3,4] [⟨none,.boxv 5 (.v 0)⟩,⟨none,.boxv 2 (.v 1)⟩,⟨none,.asg 2 (.i 0)⟩] [(3,0),(4,1)]) (.seq (.opc [] [⟨none,.fA 1 (.v 4)⟩,⟨none,.ld (.t 0)⟩,⟨none,.len (.t 1)⟩,⟨none,.bin .eql (.t 2) (.i 0)⟩] [] (.t 3) (.seq (.ops [] [⟨none,.fA 0 (.v 4)⟩,⟨none,.ld (.t 0)⟩,⟨none,.asg 2 (.t 1)⟩] []) .ret) .skip) (.seq (.ops [] [⟨none,.fA 2 (.v 3)⟩,⟨none,.ld (.t 0)⟩,⟨none,.fA 1 (.v 4)⟩,⟨none,.ld (.t 2)⟩,⟨none,.fA 1 (.v 4)⟩,⟨none,.ld (.t 4)⟩,⟨none,.len (.t 5)⟩,⟨none,.bin .sub (.t 6) (.i 1)⟩,⟨none,.idxA 1 (.t 3) (.t 7)⟩,⟨none,.ld (.t 8)⟩,⟨none,.idxA 1 (.t 1) (.t 9)⟩,⟨none,.ld (.t 10)⟩,⟨none,.asg 2 (.t 11)⟩] []) .ret)))
def tr_spec_l36End:List Nat:=[0,1,4,2,3]
def rs_spec_l36End:List RS:=[.t 2]
theorem ok_spec_l36End:fnOk Go.Proofs.Tryz.prog Go.Proofs.Tryz.f98 tr_spec_l36End c_spec_l36End 2 rs_spec_l36End=true:=by decide +kernel
theorem ret_spec_l36End (s:Sch) (p:Pth) (y:Int) (hto:s.to.length=s.fr.length) (h:s.endO p=some y):Ret Go.Proofs.Tryz.prog 98 [.v (Sch.d s),.v (Pth.d p)] (.int .i64 y):=by
 obtain ⟨_,h6,hf⟩:=endO_fol h
 obtain ⟨hy,hr⟩:=fol_end hf
 refine ret_fn Go.Proofs.Tryz.func98 ok_spec_l36End rfl (show 2<500 by decide) rfl ?_;unfold c_spec_l36End tr_spec_l36End rs_spec_l36End;simp only [go_sem,Nat.reduceLT,Nat.reduceAdd,Nat.reduceSub,↓reduceIte]
 refine ⟨fun h2=>?_,fun h2=>?_⟩
 ·rw [hy,if_pos (List.length_eq_zero_iff.1 (by simpa using h2))]
 ·have h2:p.ed.length≠0:=by simpa using h2
  have hne:¬ p.ed=[]:=fun e=>h2 (by rw [e];rfl)
  rw [if_neg hne] at hy
  rw [wrap_pred (by simp only [maxLen];omega)]
  have e1:((p.ed.length:Int)-1).toNat=p.ed.length-1:=by omega
  have:=hr (p.ed.length-1) (by omega)
  rw [e1]
  exact ⟨by omega,by omega,by rw [hy]⟩
def c_spec_l36Walk:C := (.seq (.ops [] [⟨none,.asg 3 (.i 0)⟩] []) (.seq (.seq (.ops [] [⟨none,.asg 4 (.i 0)⟩] []) (.block 0 (.loop (.seq (.opc [] [⟨none,.mv (.v 4)⟩,⟨none,.mv (.v 1)⟩,⟨none,.len (.t 1)⟩,⟨none,.bin .lss (.t 0) (.t 2)⟩] [] (.t 3) .skip (.exit 0)) (.seq (.block 1 (.ops [] [⟨none,.mv (.v 0)⟩,⟨none,.mv (.v 1)⟩,⟨none,.mv (.v 4)⟩,⟨none,.idxA 1 (.t 1) (.t 2)⟩,⟨none,.ld (.t 3)⟩,⟨none,.idxA 1 (.t 0) (.t 4)⟩,⟨none,.ld (.t 5)⟩,⟨none,.mv (.v 2)⟩,⟨none,.idxA 1 (.t 6) (.t 7)⟩,⟨none,.ld (.t 8)⟩,⟨none,.asg 2 (.t 9)⟩] [])) (.ops [] [⟨none,.mv (.v 4)⟩,⟨none,.bin .add (.t 0) (.i 1)⟩,⟨none,.asg 4 (.t 1)⟩] [])))))) (.seq (.ops [] [⟨none,.mv (.v 2)⟩,⟨none,.asg 3 (.t 0)⟩] []) .ret)))
def tr_spec_l36Walk:List Nat:=[0,1,2,6,7]
def rs_spec_l36Walk:List RS:=[.t 3]
theorem ok_spec_l36Walk:fnOk Go.Proofs.Tryz.prog Go.Proofs.Tryz.f92 tr_spec_l36Walk c_spec_l36Walk 3 rs_spec_l36Walk=true:=by decide +kernel
theorem ret_spec_l36Walk (mp:List (List Int)) (l:List Int) (r:Int) (hok:leadOk mp r l):Ret Go.Proofs.Tryz.prog 92 [.v (intss mp),.v (ints l),.v (.int .i64 r)] (.int .i64 (leadF mp r l)):=by
 refine ret_wf fun hw=>?_
 simp only [argsWf,wfd_lst] at hw
 have hl:l.length≤maxLen:=hw.2.1.1
 refine ret_fn Go.Proofs.Tryz.func92 ok_spec_l36Walk rfl (show 3<500 by decide) rfl ?_;unfold c_spec_l36Walk tr_spec_l36Walk rs_spec_l36Walk;simp only [go_sem,Nat.reduceLT,Nat.reduceAdd,↓reduceIte]
 refine loop_set [] (fun (p:Nat×Int)=>[(2,.int .i64 p.2),(4,.int .i64 p.1)]) (fun p=>p.1≤l.length∧leadF mp p.2 (l.drop p.1)=leadF mp r l∧leadOk mp p.2 (l.drop p.1)) (fun p=>l.length-p.1) (0,r) (by simp only [go_sem];rfl) ⟨Nat.zero_le _,rfl,hok⟩ rfl ?_
 rintro ⟨i,y⟩ ⟨hi,ha,hb⟩
 simp only [go_sem,Nat.reduceLT,Nat.reduceAdd,Nat.reduceSub,↓reduceIte]
 simp only at hi ha hb
 refine ⟨fun h=>?_,fun h=>?_⟩
 ·obtain ⟨e1,e2⟩:=lead_drop (mp:=mp) (r:=y) h
  obtain ⟨b1,b2,b3⟩:=e2 hb
  exact ⟨h,b1,b2,(i+1,(mp.getD (l.getD i 0).toNat []).getD y.toNat 0),⟨h,e1▸ha,b3⟩,by show l.length-(i+1)<l.length-i;omega,by rw [wrap_lt h hl]⟩
 ·rw [show i=l.length by omega,List.drop_length] at ha
  rw [← ha];rfl
end Go.D3
namespace Go.D3
open Go
set_option maxRecDepth 100000
set_option maxHeartbeats 1000000
theorem ok1_eq (s:Sch):s.ok1=!(!inR s.nd 0 8 || decide ((8:Int)<(s.fr.length:Int)) || ((s.to.length:Int) != (s.fr.length:Int)) || !mapB s.nd s.fr || !mapB s.nd s.to):=by
 unfold Sch.ok1
 have a1:decide (s.fr.length≤8)=!decide ((8:Int)<(s.fr.length:Int)):=by rw [← decide_not];exact decide_eq_decide.2 (by omega)
 have a2:decide (s.to.length=s.fr.length)=!((s.to.length:Int) != (s.fr.length:Int)):=by
  by_cases h:s.to.length=s.fr.length<;>simp [h]<;>omega
 rw [a1,a2]
 cases inR s.nd 0 8<;>cases decide ((8:Int)<(s.fr.length:Int))<;>cases ((s.to.length:Int) != (s.fr.length:Int))<;>cases mapB s.nd s.fr<;>cases mapB s.nd s.to<;>rfl
theorem ok2_eq (s:Sch):s.ok2=!(decide ((8:Int)<(s.lf.length:Int)) || ((s.rt.length:Int) != (s.lf.length:Int))):=by
 unfold Sch.ok2
 have a1:decide (s.lf.length≤8)=!decide ((8:Int)<(s.lf.length:Int)):=by rw [← decide_not];exact decide_eq_decide.2 (by omega)
 have a2:decide (s.rt.length=s.lf.length)=!((s.rt.length:Int) != (s.lf.length:Int)):=by
  by_cases h:s.rt.length=s.lf.length<;>simp [h]<;>omega
 rw [a1,a2,Bool.not_or]
def c_spec_IsSchema:C := (.seq (.ops [2] [⟨none,.boxv 5 (.v 0)⟩,⟨none,.asg 1 (.k (.bool false))⟩] [(2,0)]) (.seq (.opc [] [⟨none,.fA 0 (.v 2)⟩,⟨none,.ld (.t 0)⟩,⟨none,.call 30 [(.t 1),(.i 0),(.i 8)]⟩,⟨none,.not (.t 2)⟩,⟨none,.mv (.t 3)⟩,⟨some (4,false),.fA 1 (.v 2)⟩,⟨some (4,false),.ld (.t 5)⟩,⟨some (4,false),.len (.t 6)⟩,⟨some (4,false),.bin .gtr (.t 7) (.i 8)⟩,⟨none,.pick (.t 4) (.k (.bool true)) (.t 8)⟩,⟨none,.mv (.t 9)⟩,⟨some (10,false),.fA 2 (.v 2)⟩,⟨some (10,false),.ld (.t 11)⟩,⟨some (10,false),.len (.t 12)⟩,⟨some (10,false),.fA 1 (.v 2)⟩,⟨some (10,false),.ld (.t 14)⟩,⟨some (10,false),.len (.t 15)⟩,⟨some (10,false),.bin .neq (.t 13) (.t 16)⟩,⟨none,.pick (.t 10) (.k (.bool true)) (.t 17)⟩,⟨none,.mv (.t 18)⟩,⟨some (19,false),.fA 0 (.v 2)⟩,⟨some (19,false),.ld (.t 20)⟩,⟨some (19,false),.fA 1 (.v 2)⟩,⟨some (19,false),.ld (.t 22)⟩,⟨some (19,false),.call 96 [(.t 21),(.t 23)]⟩,⟨some (19,false),.not (.t 24)⟩,⟨none,.pick (.t 19) (.k (.bool true)) (.t 25)⟩,⟨none,.mv (.t 26)⟩,⟨some (27,false),.fA 0 (.v 2)⟩,⟨some (27,false),.ld (.t 28)⟩,⟨some (27,false),.fA 2 (.v 2)⟩,⟨some (27,false),.ld (.t 30)⟩,⟨some (27,false),.call 96 [(.t 29),(.t 31)]⟩,⟨some (27,false),.not (.t 32)⟩,⟨none,.pick (.t 27) (.k (.bool true)) (.t 33)⟩,⟨none,.mv (.t 34)⟩,⟨some (35,false),.fA 3 (.v 2)⟩,⟨some (35,false),.ld (.t 36)⟩,⟨some (35,false),.len (.t 37)⟩,⟨some (35,false),.bin .gtr (.t 38) (.i 8)⟩,⟨none,.pick (.t 35) (.k (.bool true)) (.t 39)⟩,⟨none,.mv (.t 40)⟩,⟨some (41,false),.fA 4 (.v 2)⟩,⟨some (41,false),.ld (.t 42)⟩,⟨some (41,false),.len (.t 43)⟩,⟨some (41,false),.fA 3 (.v 2)⟩,⟨some (41,false),.ld (.t 45)⟩,⟨some (41,false),.len (.t 46)⟩,⟨some (41,false),.bin .neq (.t 44) (.t 47)⟩,⟨none,.pick (.t 41) (.k (.bool true)) (.t 48)⟩] [] (.t 49) (.seq (.ops [] [⟨none,.asg 1 (.k (.bool false))⟩] []) .ret) .skip) (.seq (.seq (.ops [] [⟨none,.asg 3 (.i 0)⟩] []) (.block 0 (.loop (.seq (.opc [] [⟨none,.mv (.v 3)⟩,⟨none,.fA 3 (.v 2)⟩,⟨none,.ld (.t 1)⟩,⟨none,.len (.t 2)⟩,⟨none,.bin .lss (.t 0) (.t 3)⟩] [] (.t 4) .skip (.exit 0)) (.seq (.block 1 (.seq (.alt [4,5] (.two 9 12 [0,1,2,3,4,5,6,7,8,10,11,12,9,13] (.leaf [⟨none,.fA 3 (.v 2)⟩,⟨none,.ld (.t 0)⟩,⟨none,.mv (.v 3)⟩,⟨none,.idxA 2 (.t 1) (.t 2)⟩,⟨none,.lda 2 (.t 3)⟩,⟨none,.fA 4 (.v 2)⟩,⟨none,.ld (.t 5)⟩,⟨none,.mv (.v 3)⟩,⟨none,.idxA 2 (.t 6) (.t 7)⟩,⟨none,.lda 2 (.t 8)⟩,⟨none,.alc [.int .i64 0,.nils (.int .i64 0)]⟩,⟨none,.alc [.int .i64 0,.nils (.int .i64 0)]⟩,⟨none,.stn 2 (.t 10) (.t 4)⟩,⟨none,.stn 2 (.t 11) (.t 9)⟩] [(4,10),(5,11)]) (.two 8 11 [0,1,2,3,4,5,6,7,9,10,11,8,12,13] (.leaf [⟨none,.fA 3 (.v 2)⟩,⟨none,.ld (.t 0)⟩,⟨none,.mv (.v 3)⟩,⟨none,.idxA 2 (.t 1) (.t 2)⟩,⟨none,.lda 2 (.t 3)⟩,⟨none,.fA 4 (.v 2)⟩,⟨none,.ld (.t 5)⟩,⟨none,.mv (.v 3)⟩,⟨none,.idxA 2 (.t 6) (.t 7)⟩,⟨none,.alc [.int .i64 0,.nils (.int .i64 0)]⟩,⟨none,.alc [.int .i64 0,.nils (.int .i64 0)]⟩,⟨none,.stn 2 (.t 9) (.t 4)⟩,⟨none,.lda 2 (.t 8)⟩,⟨none,.stn 2 (.t 10) (.t 12)⟩] [(4,9),(5,10)]) (.two 6 10 [0,1,2,3,4,5,7,8,9,10,6,11,12,13] (.leaf [⟨none,.fA 3 (.v 2)⟩,⟨none,.mv (.v 3)⟩,⟨none,.fA 4 (.v 2)⟩,⟨none,.mv (.v 3)⟩,⟨none,.ld (.t 0)⟩,⟨none,.idxA 2 (.t 4) (.t 1)⟩,⟨none,.lda 2 (.t 5)⟩,⟨none,.ld (.t 2)⟩,⟨none,.alc [.int .i64 0,.nils (.int .i64 0)]⟩,⟨none,.alc [.int .i64 0,.nils (.int .i64 0)]⟩,⟨none,.stn 2 (.t 8) (.t 6)⟩,⟨none,.idxA 2 (.t 7) (.t 3)⟩,⟨none,.lda 2 (.t 11)⟩,⟨none,.stn 2 (.t 9) (.t 12)⟩] [(4,8),(5,9)]) (.leaf [⟨none,.fA 3 (.v 2)⟩,⟨none,.mv (.v 3)⟩,⟨none,.fA 4 (.v 2)⟩,⟨none,.mv (.v 3)⟩,⟨none,.ld (.t 0)⟩,⟨none,.idxA 2 (.t 4) (.t 1)⟩,⟨none,.lda 2 (.t 5)⟩,⟨none,.alc [.int .i64 0,.nils (.int .i64 0)]⟩,⟨none,.alc [.int .i64 0,.nils (.int .i64 0)]⟩,⟨none,.stn 2 (.t 7) (.t 6)⟩,⟨none,.ld (.t 2)⟩,⟨none,.idxA 2 (.t 10) (.t 3)⟩,⟨none,.lda 2 (.t 11)⟩,⟨none,.stn 2 (.t 8) (.t 12)⟩] [(4,7),(5,8)]))))) (.opc [] [⟨none,.lda 5 (.v 2)⟩,⟨none,.lda 2 (.v 4)⟩,⟨none,.call 97 [(.t 0),(.t 1)]⟩,⟨none,.not (.t 2)⟩,⟨none,.mv (.t 3)⟩,⟨some (4,false),.lda 5 (.v 2)⟩,⟨some (4,false),.lda 2 (.v 5)⟩,⟨some (4,false),.call 97 [(.t 5),(.t 6)]⟩,⟨some (4,false),.not (.t 7)⟩,⟨none,.pick (.t 4) (.k (.bool true)) (.t 8)⟩,⟨none,.mv (.t 9)⟩,⟨some (10,false),.fA 0 (.v 4)⟩,⟨some (10,false),.ld (.t 11)⟩,⟨some (10,false),.fA 0 (.v 5)⟩,⟨some (10,false),.ld (.t 13)⟩,⟨some (10,false),.bin .neq (.t 12) (.t 14)⟩,⟨none,.pick (.t 10) (.k (.bool true)) (.t 15)⟩,⟨none,.mv (.t 16)⟩,⟨some (17,false),.lda 5 (.v 2)⟩,⟨some (17,false),.lda 2 (.v 4)⟩,⟨some (17,false),.call 98 [(.t 18),(.t 19)]⟩,⟨some (17,false),.lda 5 (.v 2)⟩,⟨some (17,false),.lda 2 (.v 5)⟩,⟨some (17,false),.call 98 [(.t 21),(.t 22)]⟩,⟨some (17,false),.bin .neq (.t 20) (.t 23)⟩,⟨none,.pick (.t 17) (.k (.bool true)) (.t 24)⟩] [] (.t 25) (.seq (.ops [] [⟨none,.asg 1 (.k (.bool false))⟩] []) .ret) .skip))) (.ops [] [⟨none,.mv (.v 3)⟩,⟨none,.bin .add (.t 0) (.i 1)⟩,⟨none,.asg 3 (.t 1)⟩] [])))))) (.seq (.ops [] [⟨none,.asg 1 (.k (.bool true))⟩] []) .ret))))
def tr_spec_IsSchema:List Nat:=[0,2,1,3,4,5]
def rs_spec_IsSchema:List RS:=[.t 1]
theorem ok_spec_IsSchema:fnOk Go.Proofs.Tryz.prog Go.Proofs.Tryz.f80 tr_spec_IsSchema c_spec_IsSchema 1 rs_spec_IsSchema=true:=by decide +kernel
theorem ret_spec_IsSchema (s:Sch):Ret Go.Proofs.Tryz.prog 80 [.v (Sch.d s)] (.bool s.ok):=by
 refine ret_wf fun hw=>?_
 simp only [argsWf,wfd_lst,Sch.d,Sch.cells,D.wfd,wfdL] at hw
 have hl:s.lf.length≤maxLen:=hw.1.2.2.2.1.1
 refine ret_fn Go.Proofs.Tryz.func80 ok_spec_IsSchema rfl (show 1<500 by decide) rfl ?_;unfold c_spec_IsSchema tr_spec_IsSchema rs_spec_IsSchema;simp only [go_sem,Nat.reduceLT,Nat.reduceAdd,Nat.reduceSub,↓reduceIte]
 refine call_of (ret_spec_l01In _ _ _) rfl (.inl rfl) ?_
 simp only [go_sem,Nat.reduceLT,Nat.reduceAdd,Nat.reduceSub,↓reduceIte]
 refine ⟨fun h=>by simpa using h,(fun h=>by simp only [Bool.or_eq_false_iff,Bool.and_eq_true,Bool.not_eq_true',Bool.not_eq_false'] at h ⊢;exact h),?_⟩
 refine callg_of (fun _=>ret_spec_l01Map s.nd s.fr) rfl (fun h=>h) (.inl rfl) ?_
 simp only [go_sem,Nat.reduceLT,Nat.reduceAdd,Nat.reduceSub,↓reduceIte]
 refine ⟨(fun h=>by simp only [Bool.or_eq_false_iff,Bool.and_eq_true,Bool.not_eq_true',Bool.not_eq_false'] at h ⊢;exact h),?_⟩
 refine callg_of (fun _=>ret_spec_l01Map s.nd s.to) rfl (fun h=>h) (.inl rfl) ?_
 simp only [go_sem,Nat.reduceLT,Nat.reduceAdd,Nat.reduceSub,↓reduceIte]
 have e1:=ok1_eq s
 have e2:=ok2_eq s
 refine ⟨(fun h=>by simp only [Bool.or_eq_false_iff,Bool.and_eq_true,Bool.not_eq_true',Bool.not_eq_false'] at h ⊢;exact h),(fun h=>by simp only [Bool.or_eq_false_iff,Bool.and_eq_true,Bool.not_eq_true',Bool.not_eq_false'] at h ⊢;exact h),(fun h=>by simp only [Bool.or_eq_false_iff,Bool.and_eq_true,Bool.not_eq_true',Bool.not_eq_false'] at h ⊢;exact h),fun h=>?_,fun h=>?_⟩
 ·unfold Sch.ok
  rw [e1,e2]
  generalize inR s.nd 0 8=x1 at h ⊢
  generalize decide ((8:Int)<(s.fr.length:Int))=x2 at h ⊢
  generalize ((s.to.length:Int) != (s.fr.length:Int))=x3 at h ⊢
  generalize mapB s.nd s.fr=x4 at h ⊢
  generalize mapB s.nd s.to=x5 at h ⊢
  generalize decide ((8:Int)<(s.lf.length:Int))=x6 at h ⊢
  generalize ((s.rt.length:Int) != (s.lf.length:Int))=x7 at h ⊢
  cases x1<;>cases x2<;>cases x3<;>cases x4<;>cases x5<;>cases x6<;>cases x7<;>first | rfl | cases h
 have e1':s.ok1=true:=by rw [e1];simp only [Bool.or_eq_false_iff] at h;simp only [h.1.1.1.1.1.1,h.1.1.1.1.1.2,h.1.1.1.1.2,h.1.1.1.2,h.1.1.2];rfl
 have e2':s.ok2=true:=by rw [e2];simp only [Bool.or_eq_false_iff] at h;simp only [h.1.2,h.2];rfl
 clear h e1 e2
 have hs:=sok_of e1'
 have hto:=hs.to
 have hn:=hs.n0
 have hrt:s.rt.length=s.lf.length:=by have:=e2';simp [Sch.ok2] at this;exact this.2
 refine loop_set [4,5] (fun (i:Nat)=>[(3,.int .i64 i)]) (fun i=>i≤s.lf.length∧s.eqs i=true) (fun i=>s.lf.length-i) 0 (by simp only [go_sem,Nat.reduceLT,↓reduceIte];rfl) ⟨Nat.zero_le _,rfl⟩ rfl ?_
 rintro i ⟨hi,ha⟩
 simp only [go_sem,Nat.reduceLT,Nat.reduceAdd,Nat.reduceSub,Nat.reduceLeDiff,↓reduceIte]
 refine ⟨fun h=>⟨h,by omega,call_of (ret_spec_l36Path s (s.lf.getD i Pth.zero) hto hn) rfl (.inl rfl) ?_⟩,fun h=>?_⟩
 ·simp only [go_sem,Nat.reduceLT,Nat.reduceAdd,Nat.reduceSub,Nat.reduceLeDiff,↓reduceIte]
  refine callg_of (fun _=>ret_spec_l36Path s (s.rt.getD i Pth.zero) hto hn) rfl (fun h=>h) (.inl rfl) ?_
  simp only [go_sem,Nat.reduceLT,Nat.reduceAdd,Nat.reduceSub,Nat.reduceLeDiff,↓reduceIte]
  have hE:=eqs_succ (s:=s) (n:=i)
  unfold Sch.eqB at hE
  have neg:s.eqs (i+1)=false→false=s.ok:=fun hf=>by
   unfold Sch.ok
   rw [e1',e2']
   symm
   simp only [Bool.true_and]
   unfold Sch.eqs at hf ⊢
   rw [List.all_eq_false] at hf ⊢
   obtain ⟨x,h1,h2⟩:=hf
   exact ⟨x,by rw [List.mem_range] at h1 ⊢;omega,h2⟩
  rw [ha,Bool.true_and] at hE
  refine ⟨fun h=>by simpa using h,(fun h=>by simp only [Bool.or_eq_false_iff,Bool.and_eq_true,Bool.not_eq_false'] at h ⊢;exact h),?_⟩
  have some1:∀ {o:Option Int} {b:Bool},(o.isSome&&b)=true→o=some (o.getD 0):=fun {o b} h=>by cases o with | none=>cases h | some a=>rfl
  refine callg_of (fun hg=>ret_spec_l36End s (s.lf.getD i Pth.zero) ((s.endO (s.lf.getD i Pth.zero)).getD 0) hto (by rw [Bool.and_assoc] at hg;exact some1 hg)) rfl (fun h=>h) (.inl rfl) ?_
  simp only [go_sem,Nat.reduceLT,Nat.reduceAdd,Nat.reduceSub,Nat.reduceLeDiff,↓reduceIte]
  refine callg_of (fun hg=>ret_spec_l36End s (s.rt.getD i Pth.zero) ((s.endO (s.rt.getD i Pth.zero)).getD 0) hto (by
   rw [Bool.and_eq_true,Bool.and_eq_true] at hg;exact some1 (b:=true) (by rw [hg.1.2];rfl))) rfl (fun h=>h) (.inl rfl) ?_
  simp only [go_sem,Nat.reduceLT,Nat.reduceAdd,Nat.reduceSub,Nat.reduceLeDiff,↓reduceIte]
  refine ⟨(fun h=>by simp only [Bool.or_eq_false_iff,Bool.and_eq_true,Bool.not_eq_true',Bool.not_eq_false'] at h ⊢;exact h),fun h2=>neg ?_,fun h2=>⟨i+1,⟨h,?_⟩,by omega,by rw [wrap_lt h hl]⟩⟩
  ·rw [hE]
   generalize s.endO (s.lf.getD i Pth.zero)=A at h2
   generalize s.endO (s.rt.getD i Pth.zero)=B at h2
   cases A with
   | none=>rfl
   | some a =>
    cases B with
    | none=>rfl
    | some b =>
     rw [Bool.and_eq_false_iff]
     simp only [Option.isSome_some,Bool.not_true,Bool.false_or,Option.getD_some,Bool.or_eq_true,bne_iff_ne] at h2
     exact h2.imp beq_eq_false_iff_ne.2 beq_eq_false_iff_ne.2
  ·rw [hE]
   generalize s.endO (s.lf.getD i Pth.zero)=A at h2
   generalize s.endO (s.rt.getD i Pth.zero)=B at h2
   cases A with
   | none=>cases h2
   | some a =>
    cases B with
    | none=>cases h2
    | some b =>
     simp only [Option.isSome_some,Bool.not_true,Bool.false_or,Option.getD_some,Bool.or_eq_false_iff,bne_eq_false_iff_eq] at h2
     rw [Bool.and_eq_true]
     exact ⟨beq_iff_eq.2 h2.1,beq_iff_eq.2 h2.2⟩
 ·rw [show i=s.lf.length by omega] at ha
  unfold Sch.ok
  rw [e1',e2',ha]
  rfl
end Go.D3
namespace Go.D3
open Go
set_option maxRecDepth 100000
set_option maxHeartbeats 4000000
theorem spl_ed {s:Sch} (h:TOk s) {i:Nat} (hi:i<s.fr.length):spl [62] 0 (s.edT i)=[Lib.itoa (s.fr.getD i 0),Lib.itoa (s.to.getD i 0)]:=by
 obtain ⟨a,b⟩:=h.ed i hi
 have h1:(62:UInt8) ∉ Lib.itoa (s.fr.getD i 0):=fun hb=>by have:=itoa_mem a.1 hb;revert this;decide
 have h2:(62:UInt8) ∉ Lib.itoa (s.to.getD i 0):=fun hb=>by have:=itoa_mem b.1 hb;revert this;decide
 unfold Sch.edT
 rw [show Lib.itoa (s.fr.getD i 0)++62::Lib.itoa (s.to.getD i 0)=Lib.itoa (s.fr.getD i 0)++[62]++Lib.itoa (s.to.getD i 0) by simp,spl1_app h1,spl1_end h2]
theorem spl_eq {s:Sch} (h:TOk s) {i:Nat} (hi:i<s.lf.length):spl [61] 0 (s.eqT i)=[(s.lf.getD i Pth.zero).txt,(s.rt.getD i Pth.zero).txt]:=by
 obtain ⟨a,b⟩:=h.eq i hi
 unfold Sch.eqT
 rw [show (s.lf.getD i Pth.zero).txt++61::(s.rt.getD i Pth.zero).txt=(s.lf.getD i Pth.zero).txt++[61]++(s.rt.getD i Pth.zero).txt by simp,spl1_app fun hb=>(txt_mem a hb).2 rfl,spl1_end fun hb=>(txt_mem b hb).2 rfl]
def EndQ (t:List UInt8) (rc:D) (gs:List D):Prop:=gs=[]∧∃ (fr to:List Int) (e:Bool),rc=.o (.tup [ints fr,ints to,.bool e])∧∀ q:Sch,q.ok=true→t=partF (q.edL q.fr.length)→fr=q.fr∧to=q.to∧e=true
theorem list2 {α:Type} {l:List α} (h:l.length=2):∃ a b,l=[a,b]:=by
 match l,h with
 | [a,b],_=>exact ⟨a,b,rfl⟩
def c_spec_l04Ends:C := (.seq (.ops [] [⟨none,.asg 1 (.k (.nils (.int .i64 0)))⟩,⟨none,.asg 2 (.k (.nils (.int .i64 0)))⟩,⟨none,.asg 3 (.k (.bool false))⟩] []) (.seq (.ops [] [⟨none,.bldS (.int .i64 0) 0 []⟩,⟨none,.bldS (.int .i64 0) 0 []⟩,⟨none,.asg 4 (.t 0)⟩,⟨none,.asg 5 (.t 1)⟩] []) (.seq (.opc [] [⟨none,.mv (.v 0)⟩,⟨none,.bin .eql (.t 0) (.k (.str [45]))⟩] [] (.t 1) (.seq (.ops [] [⟨none,.mv (.v 4)⟩,⟨none,.mv (.v 5)⟩,⟨none,.asg 1 (.t 0)⟩,⟨none,.asg 2 (.t 1)⟩,⟨none,.asg 3 (.k (.bool true))⟩] []) .ret) .skip) (.seq (.ops [] [⟨none,.mv (.v 0)⟩,⟨none,.call 59 [(.t 0),(.k (.int .u8 32))]⟩,⟨none,.asg 6 (.t 1)⟩] []) (.seq (.opc [] [⟨none,.mv (.v 6)⟩,⟨none,.len (.t 0)⟩,⟨none,.bin .gtr (.t 1) (.i 40)⟩] [] (.t 2) (.seq (.ops [] [⟨none,.asg 1 (.k (.nils (.int .i64 0)))⟩,⟨none,.asg 2 (.k (.nils (.int .i64 0)))⟩,⟨none,.asg 3 (.k (.bool false))⟩] []) .ret) .skip) (.seq (.seq (.ops [] [⟨none,.asg 7 (.i 0)⟩] []) (.block 0 (.loop (.seq (.opc [] [⟨none,.mv (.v 7)⟩,⟨none,.mv (.v 6)⟩,⟨none,.len (.t 1)⟩,⟨none,.bin .lss (.t 0) (.t 2)⟩] [] (.t 3) .skip (.exit 0)) (.seq (.block 1 (.seq (.ops [] [⟨none,.mv (.v 6)⟩,⟨none,.mv (.v 7)⟩,⟨none,.idxA 1 (.t 0) (.t 1)⟩,⟨none,.ld (.t 2)⟩,⟨none,.call 59 [(.t 3),(.k (.int .u8 62))]⟩,⟨none,.asg 8 (.t 4)⟩] []) (.seq (.opc [] [⟨none,.mv (.v 8)⟩,⟨none,.len (.t 0)⟩,⟨none,.bin .neq (.t 1) (.i 2)⟩,⟨none,.mv (.t 2)⟩,⟨some (3,false),.mv (.v 8)⟩,⟨some (3,false),.idxA 1 (.t 4) (.i 0)⟩,⟨some (3,false),.ld (.t 5)⟩,⟨some (3,false),.call 60 [(.t 6)]⟩,⟨some (3,false),.bin .lss (.t 7) (.i 0)⟩,⟨none,.pick (.t 3) (.k (.bool true)) (.t 8)⟩,⟨none,.mv (.t 9)⟩,⟨some (10,false),.mv (.v 8)⟩,⟨some (10,false),.idxA 1 (.t 11) (.i 1)⟩,⟨some (10,false),.ld (.t 12)⟩,⟨some (10,false),.call 60 [(.t 13)]⟩,⟨some (10,false),.bin .lss (.t 14) (.i 0)⟩,⟨none,.pick (.t 10) (.k (.bool true)) (.t 15)⟩] [] (.t 16) (.seq (.ops [] [⟨none,.asg 1 (.k (.nils (.int .i64 0)))⟩,⟨none,.asg 2 (.k (.nils (.int .i64 0)))⟩,⟨none,.asg 3 (.k (.bool false))⟩] []) .ret) .skip) (.seq (.ops [] [⟨none,.mv (.v 4)⟩,⟨none,.mv (.v 8)⟩,⟨none,.idxA 1 (.t 1) (.i 0)⟩,⟨none,.ld (.t 2)⟩,⟨none,.call 60 [(.t 3)]⟩,⟨none,.bldS (.int .i64 0) 1 [(0,(.t 4))]⟩,⟨none,.app 1 8 (.t 0) (.t 5)⟩,⟨none,.asg 4 (.t 6)⟩] []) (.ops [] [⟨none,.mv (.v 5)⟩,⟨none,.mv (.v 8)⟩,⟨none,.idxA 1 (.t 1) (.i 1)⟩,⟨none,.ld (.t 2)⟩,⟨none,.call 60 [(.t 3)]⟩,⟨none,.bldS (.int .i64 0) 1 [(0,(.t 4))]⟩,⟨none,.app 1 8 (.t 0) (.t 5)⟩,⟨none,.asg 5 (.t 6)⟩] []))))) (.ops [] [⟨none,.mv (.v 7)⟩,⟨none,.bin .add (.t 0) (.i 1)⟩,⟨none,.asg 7 (.t 1)⟩] [])))))) (.seq (.ops [] [⟨none,.mv (.v 4)⟩,⟨none,.mv (.v 5)⟩,⟨none,.asg 1 (.t 0)⟩,⟨none,.asg 2 (.t 1)⟩,⟨none,.asg 3 (.k (.bool true))⟩] []) .ret)))))))
def tr_spec_l04Ends:List Nat:=[0,2,3,4,5,6,7,8,9]
def rs_spec_l04Ends:List RS:=[.t 1,.t 2,.t 3]
theorem ok_spec_l04Ends:fnOk Go.Proofs.Tryz.prog Go.Proofs.Tryz.f78 tr_spec_l04Ends c_spec_l04Ends 1 rs_spec_l04Ends=true:=by decide +kernel
theorem ret_spec_l04Ends (t:List UInt8) (ht:t.length≤4294966000):RetE Go.Proofs.Tryz.prog 78 [.str t] [] (EndQ t):=by
 have hq0:∀ q:Sch,q.ok=true→t=partF (q.edL q.fr.length)→wordsF t=q.edL q.fr.length:=fun q h1 h2=>by rw [h2];exact words_ed (tok_of h1)
 have no:(∀ q:Sch,q.ok=true→t≠partF (q.edL q.fr.length))→EndQ t (.o (.tup [ints [],ints [],.bool false])) []:=fun h=>⟨rfl,[],[],false,rfl,fun q h1 h2=>absurd h2 (h q h1)⟩
 refine ret_fnE .tree Go.Proofs.Tryz.func78 rfl ok_spec_l04Ends rfl ⟨by simp only [List.length_cons,List.length_nil];decide,by simp only [List.length_nil];decide⟩ rfl ?_;unfold c_spec_l04Ends tr_spec_l04Ends rs_spec_l04Ends;simp only [go_sem,Nat.reduceLT,Nat.reduceAdd,Nat.reduceSub,Nat.reduceEqDiff,Nat.reduceBEq,↓reduceIte]
 refine ⟨fun h=>?_,fun h=>?_⟩
 ·refine ⟨_,_,⟨rfl,[],[],true,rfl,fun q h1 h2=>?_⟩,rfl,rfl,trivial⟩
  have hw:=hq0 q h1 h2
  unfold wordsF at hw
  rw [if_pos h] at hw
  have hl:q.fr.length=0:=by rw [← edL_len (s:=q) (n:=q.fr.length),← hw];rfl
  exact ⟨(List.length_eq_zero_iff.1 hl).symm,(List.length_eq_zero_iff.1 (by rw [(tok_of h1).to];exact hl)).symm,rfl⟩
 ·have hw0:wordsF t=spl [32] 0 t:=by unfold wordsF;rw [if_neg (by simpa using h)]
  rw [hw0] at hq0
  refine call_of (ret_spec_l01Split t 32 (by omega)) rfl (.inl (nv_strs _)) ?_
  have hn:∀ x∈spl [32] 0 t,x.length≤t.length:=fun x hx=>spl_mem hx
  generalize spl [32] 0 t=ws at hq0 hn
  simp only [go_sem,Nat.reduceLT,Nat.reduceAdd,Nat.reduceSub,Nat.reduceEqDiff,↓reduceIte]
  refine ⟨fun h1=>⟨_,_,no (fun q h2 h3=>?_),rfl,rfl,trivial⟩,fun h1=>?_⟩
  ·have:=(tok_of h2).f8
   rw [hq0 q h2 h3,edL_len] at h1;omega
  refine loop_set [8] (fun (p:Nat×List Int×List Int)=>[(4,.o (ints p.2.1)),(5,.o (ints p.2.2)),(7,.int .i64 p.1)]) (fun p=>p.1≤ws.length∧p.2.1.length=p.1∧p.2.2.length=p.1∧∀ q:Sch,q.ok=true→t=partF (q.edL q.fr.length)→p.2.1=q.fr.take p.1∧p.2.2=q.to.take p.1) (fun p=>ws.length-p.1) (0,[],[]) (by simp only [go_sem,Nat.reduceLT,↓reduceIte];rfl) ⟨Nat.zero_le _,rfl,rfl,fun _ _ _=>⟨rfl,rfl⟩⟩ rfl ?_
  rintro ⟨i,fr,to⟩ ⟨hi,hf,ht2,hq⟩
  simp only at hi hf ht2 hq
  simp only [go_sem,Nat.reduceLT,Nat.reduceAdd,Nat.reduceSub,Nat.reduceEqDiff,Nat.reduceBEq,Nat.reduceLeDiff,↓reduceIte]
  refine ⟨fun h2=>⟨h2,?_⟩,fun h2=>?_⟩
  ·have hx:ws.getD i []∈ws:=by rw [getD_lt h2];exact List.getElem_mem _
   have hxl:=hn _ hx
   refine call_of (ret_spec_l01Split (ws.getD i []) 62 (by omega)) rfl (.inl (nv_strs _)) ?_
   have hs:∀ q:Sch,q.ok=true→t=partF (q.edL q.fr.length)→i<q.fr.length∧spl [62] 0 (ws.getD i [])=[Lib.itoa (q.fr.getD i 0),Lib.itoa (q.to.getD i 0)]:=fun q h3 h4=>by
    have hw:=hq0 q h3 h4
    have hlt:i<q.fr.length:=by rw [hw,edL_len] at h2;exact h2
    rw [hw,edL_get hlt]
    exact ⟨hlt,spl_ed (tok_of h3) hlt⟩
   generalize spl [62] 0 (ws.getD i [])=es at hs
   simp only [go_sem,Nat.reduceLT,Nat.reduceAdd,Nat.reduceSub,Nat.reduceBEq,↓reduceIte]
   by_cases h3:es.length=2
   ·obtain ⟨a,b,rfl⟩:=list2 h3
    have e2:(((2:Nat):Int) != 2)=false:=rfl
    simp only [go_sem,Nat.reduceAdd,e2]
    refine ⟨by decide,callg_of (fun _=>ret_spec_l01Value _) rfl (fun h=>h) (.inl (by cases numO 9 a<;>rfl)) ?_⟩
    have hsa:∀ q:Sch,q.ok=true→t=partF (q.edL q.fr.length)→i<q.fr.length∧numO 9 a=some (q.fr.getD i 0).toNat∧numO 9 b=some (q.to.getD i 0).toNat:=fun q h4 h5=>by
     obtain ⟨a1,a2⟩:=hs q h4 h5
     obtain ⟨b1,b2⟩:=(tok_of h4).ed i a1
     simp only [List.cons.injEq,and_true] at a2
     rw [a2.1,a2.2]
     exact ⟨a1,itoa_num b1.1 (by rw [itoa_small b1.1 (by omega)];decide),itoa_num b2.1 (by rw [itoa_small b2.1 (by omega)];decide)⟩
    cases ha:numO 9 a with
    | none =>
     simp only [valD]
     simp only [go_sem,Nat.reduceLT,Nat.reduceAdd,Nat.reduceSub,↓reduceIte]
     have e3:decide ((-1:Int)<0)=true:=rfl
     simp only [go_sem,e3]
     refine callg_of (res:=.int .i64 0) (fun h=>by cases h) rfl (fun h=>by cases h) (.inl rfl) ?_
     simp only [go_sem,Nat.reduceLT,Nat.reduceAdd,Nat.reduceSub,Nat.reduceEqDiff,↓reduceIte]
     exact ⟨_,_,no (fun q h4 h5=>by have:=(hsa q h4 h5).2.1;rw [ha] at this;cases this),rfl,rfl,trivial⟩
    | some m =>
     have e3:decide ((m:Int)<0)=false:=decide_eq_false (by omega)
     simp only [valD]
     simp only [go_sem,Nat.reduceLT,Nat.reduceAdd,Nat.reduceSub,↓reduceIte,e3]
     refine ⟨by decide,callg_of (fun _=>ret_spec_l01Value _) rfl (fun h=>h) (.inl (by cases numO 9 b<;>rfl)) ?_⟩
     cases hb:numO 9 b with
     | none =>
      have e4:decide ((-1:Int)<0)=true:=rfl
      simp only [valD]
      simp only [go_sem,Nat.reduceLT,Nat.reduceAdd,Nat.reduceSub,Nat.reduceEqDiff,↓reduceIte,e4]
      exact ⟨_,_,no (fun q h4 h5=>by have:=(hsa q h4 h5).2.2;rw [hb] at this;cases this),rfl,rfl,trivial⟩
     | some n =>
      have e4:decide ((n:Int)<0)=false:=decide_eq_false (by omega)
      simp only [valD]
      simp only [go_sem,Nat.reduceLT,Nat.reduceAdd,Nat.reduceSub,Nat.reduceEqDiff,↓reduceIte,e4]
      refine ⟨by decide,call_of (ret_spec_l01Value _) rfl (.inl (by cases numO 9 a<;>rfl)) ?_⟩
      rw [ha]
      simp only [valD]
      simp only [go_sem,Nat.reduceLT,Nat.reduceAdd,Nat.reduceSub,Nat.reduceBEq,↓reduceIte]
      refine ⟨by omega,by decide,call_of (ret_spec_l01Value _) rfl (.inl (by cases numO 9 b<;>rfl)) ?_⟩
      rw [hb]
      simp only [valD]
      simp only [go_sem,Nat.reduceLT,Nat.reduceAdd,Nat.reduceSub,Nat.reduceBEq,↓reduceIte]
      refine ⟨by omega,(i+1,fr++[(m:Int)],to++[(n:Int)]),⟨h2,by simp [hf],by simp [ht2],fun q h4 h5=>?_⟩,by show ws.length-(i+1)<_;omega,by rw [wrap_small (by omega) (by omega)];rfl⟩
      obtain ⟨a1,a2,a3⟩:=hsa q h4 h5
      have hT:=tok_of h4
      obtain ⟨b1,b2⟩:=hT.ed i a1
      obtain ⟨q1,q2⟩:=hq q h4 h5
      rw [ha] at a2
      rw [hb] at a3
      injection a2 with a2
      injection a3 with a3
      show fr++_=q.fr.take (i+1)∧to++_=q.to.take (i+1)
      rw [take_snoc a1 0,take_snoc (by rw [hT.to];exact a1) 0,q1,q2,a2,a3,Int.toNat_of_nonneg b1.1,Int.toNat_of_nonneg b2.1]
      exact ⟨rfl,rfl⟩
   ·have hg:(!((es.length:Int) != 2))=false:=by simp;omega
    have hg2:((es.length:Int) != 2)=true:=by simpa using hg
    rw [hg2]
    simp only [go_sem]
    refine callg_of (res:=.int .i64 0) (fun h=>by cases h) rfl (fun h=>by cases h) (.inl rfl) ?_
    simp only [go_sem,Nat.reduceLT,Nat.reduceAdd,Nat.reduceSub,↓reduceIte]
    refine callg_of (res:=.int .i64 0) (fun h=>by cases h) rfl (fun h=>by cases h) (.inl rfl) ?_
    simp only [go_sem,Nat.reduceLT,Nat.reduceAdd,Nat.reduceSub,Nat.reduceEqDiff,↓reduceIte]
    exact ⟨_,_,no (fun q h4 h5=>by have:=(hs q h4 h5).2;rw [this] at h3;simp at h3),rfl,rfl,trivial⟩
  ·refine ⟨_,_,⟨rfl,fr,to,true,rfl,fun q h3 h4=>?_⟩,rfl,rfl,trivial⟩
   obtain ⟨q1,q2⟩:=hq q h3 h4
   have hw:=hq0 q h3 h4
   rw [hw,edL_len] at h2
   have:=(tok_of h3).to
   rw [List.take_of_length_le (by omega)] at q1 q2
   exact ⟨q1,q2,rfl⟩
end Go.D3
namespace Go.D3
open Go
set_option maxRecDepth 100000
set_option maxHeartbeats 4000000
def PthR (t:List UInt8) (rc:D) (gs:List D):Prop:=gs=[]∧∃ (p:Pth) (e:Bool),rc=.o (.tup [Pth.d p,.bool e])∧∀ q,POk q→t=q.txt→p=q∧e=true
theorem itoa_one {n:Int} (h : 0≤n) (h1:n<10):Lib.itoa n=[UInt8.ofNat (48+n.toNat)]:=by
 obtain ⟨m,rfl⟩:∃ m:Nat,n=m:=⟨n.toNat,by omega⟩
 rw [Lib.itoa_nonneg,Lib.decDigits_one (by omega)];rfl
theorem txt_one {q:Pth} (h:POk q):q.txt=64::UInt8.ofNat (48+q.st.toNat)::q.ed.map edgB:=by
 unfold Pth.txt
 rw [itoa_one h.st.1 (by have:=h.st;omega)];rfl
def c_spec_l36Read:C := (.seq (.ops [1] [⟨none,.alc [.int .i64 0,.nils (.int .i64 0)]⟩,⟨none,.asg 2 (.k (.bool false))⟩] [(1,0)]) (.seq (.opc [] [⟨none,.mv (.v 0)⟩,⟨none,.lenS (.t 0)⟩,⟨none,.bin .lss (.t 1) (.i 2)⟩,⟨none,.mv (.t 2)⟩,⟨some (3,false),.mv (.v 0)⟩,⟨some (3,false),.idxS (.t 4) (.i 0)⟩,⟨some (3,false),.bin .neq (.t 5) (.k (.int .u8 64))⟩,⟨none,.pick (.t 3) (.k (.bool true)) (.t 6)⟩] [] (.t 7) (.seq (.ops [] [⟨none,.bld [.int .i64 0,.nils (.int .i64 0)] []⟩,⟨none,.stn 2 (.v 1) (.t 0)⟩,⟨none,.asg 2 (.k (.bool false))⟩] []) .ret) .skip) (.seq (.ops [3] [⟨none,.mv (.v 0)⟩,⟨none,.idxS (.t 0) (.i 1)⟩,⟨none,.conv .i64 (.t 1)⟩,⟨none,.bin .sub (.t 2) (.i 48)⟩,⟨none,.bldS (.int .i64 0) 0 []⟩,⟨none,.bld [.int .i64 0,.nils (.int .i64 0)] [(0,1,(.t 3)),(1,1,(.t 4))]⟩,⟨none,.alc [.int .i64 0,.nils (.int .i64 0)]⟩,⟨none,.stn 2 (.t 6) (.t 5)⟩] [(3,6)]) (.seq (.seq (.ops [] [⟨none,.asg 4 (.i 2)⟩] []) (.block 0 (.loop (.seq (.opc [] [⟨none,.mv (.v 4)⟩,⟨none,.mv (.v 0)⟩,⟨none,.lenS (.t 1)⟩,⟨none,.bin .lss (.t 0) (.t 2)⟩] [] (.t 3) .skip (.exit 0)) (.seq (.block 1 (.seq (.opc [] [⟨none,.fA 1 (.v 3)⟩,⟨none,.ld (.t 0)⟩,⟨none,.len (.t 1)⟩,⟨none,.bin .geq (.t 2) (.i 6)⟩] [] (.t 3) (.seq (.ops [] [⟨none,.bld [.int .i64 0,.nils (.int .i64 0)] []⟩,⟨none,.stn 2 (.v 1) (.t 0)⟩,⟨none,.asg 2 (.k (.bool false))⟩] []) .ret) .skip) (.ops [] [⟨none,.fA 1 (.v 3)⟩,⟨none,.ld (.t 0)⟩,⟨none,.call 26 [(.t 1)]⟩,⟨none,.mv (.v 0)⟩,⟨none,.mv (.v 4)⟩,⟨none,.idxS (.t 3) (.t 4)⟩,⟨none,.conv .i64 (.t 5)⟩,⟨none,.bin .sub (.t 6) (.i 97)⟩,⟨none,.bldS (.int .i64 0) 1 [(0,(.t 7))]⟩,⟨none,.app 1 8 (.t 2) (.t 8)⟩,⟨none,.fA 1 (.v 3)⟩,⟨none,.st (.t 10) (.t 9)⟩] []))) (.ops [] [⟨none,.mv (.v 4)⟩,⟨none,.bin .add (.t 0) (.i 1)⟩,⟨none,.asg 4 (.t 1)⟩] [])))))) (.seq (.ops [] [⟨none,.lda 2 (.v 3)⟩,⟨none,.stn 2 (.v 1) (.t 0)⟩,⟨none,.asg 2 (.k (.bool true))⟩] []) .ret)))))
def tr_spec_l36Read:List Nat:=[0,2,3,4,5]
def rs_spec_l36Read:List RS:=[.c 1 2 true,.t 2]
theorem ok_spec_l36Read:fnOk Go.Proofs.Tryz.prog Go.Proofs.Tryz.f79 tr_spec_l36Read c_spec_l36Read 1 rs_spec_l36Read=true:=by decide +kernel
theorem ret_spec_l36Read (t:List UInt8) (ht:t.length≤4294966000):RetE Go.Proofs.Tryz.prog 79 [.str t] [] (PthR t):=by
 have no:(∀ q,POk q→t≠q.txt)→PthR t (.o (.tup [Pth.d Pth.zero,.bool false])) []:=fun h=>⟨rfl,Pth.zero,false,rfl,fun q h1 h2=>absurd h2 (h q h1)⟩
 have hq:∀ q,POk q→t=q.txt→t.length=q.ed.length+2∧t.getD 0 0=64∧((t.getD 1 0).toNat:Int)=48+q.st∧∀ i,t.getD (i+2) 0=(q.ed.map edgB).getD i 0:=fun q h1 h2=>by
  rw [h2,txt_one h1]
  have:=h1.st
  refine ⟨by simp,rfl,?_,fun i=>by simp [List.getD_eq_getElem?_getD]⟩
  show ((UInt8.ofNat (48+q.st.toNat)).toNat:Int)=_
  rw [UInt8.toNat_ofNat',Nat.mod_eq_of_lt (by omega)];omega
 refine ret_fnE .tree Go.Proofs.Tryz.func79 rfl ok_spec_l36Read rfl ⟨by simp only [List.length_cons,List.length_nil];decide,by simp only [List.length_nil];decide⟩ rfl ?_;unfold c_spec_l36Read tr_spec_l36Read rs_spec_l36Read;simp only [go_sem,Nat.reduceLT,Nat.reduceAdd,Nat.reduceSub,Nat.reduceEqDiff,Nat.reduceBEq,Nat.reduceLeDiff,↓reduceIte]
 refine ⟨fun h=>⟨h,by decide,by simp at h;omega⟩,(fun h=>by simpa using h),fun h=>⟨_,_,no (fun q h1 h2=>?_),rfl,rfl,trivial⟩,fun h=>?_⟩
 ·obtain ⟨a1,a2,_⟩:=hq q h1 h2
  rw [a1,a2] at h
  simp at h;omega
 ·simp only [Bool.or_eq_false_iff,decide_eq_false_iff_not] at h
  refine ⟨by omega,?_⟩
  have hb:=(t.getD 1 0).toNat_lt
  rw [wrap_small (n:=((t.getD 1 0).toNat:Int)) (by omega) (by omega),wrap_small (by omega) (by omega)]
  refine loop_set [] (fun (p:Nat×List Int)=>[(3,.box [.int .i64 (((t.getD 1 0).toNat:Int)-48),.o (ints p.2)]),(4,.int .i64 (p.1+2:Nat))]) (fun p=>p.1+2≤t.length∧p.2.length=p.1∧p.1≤6∧∀ q,POk q→t=q.txt→p.2=q.ed.take p.1) (fun p=>t.length-p.1) (0,[]) (by simp only [go_sem];rfl) ⟨by show 0+2≤_;omega,rfl,by decide,fun _ _ _=>rfl⟩ rfl ?_
  rintro ⟨k,ed⟩ ⟨hk,hl,h6,he⟩
  simp only at hk hl h6 he
  simp only [go_sem,Nat.reduceLT,Nat.reduceAdd,Nat.reduceSub,Nat.reduceEqDiff,Nat.reduceBEq,Nat.reduceLeDiff,↓reduceIte]
  refine ⟨fun h1=>⟨fun h2=>⟨_,_,no (fun q h3 h4=>?_),rfl,rfl,trivial⟩,fun h2=>call_of (ret_spec_l01Own ed (by omega)) rfl (.inl (nv_ints _)) ?_⟩,fun h1=>⟨_,_,⟨rfl,⟨((t.getD 1 0).toNat:Int)-48,ed⟩,true,rfl,fun q h3 h4=>⟨?_,rfl⟩⟩,rfl,rfl,trivial⟩⟩
  ·obtain ⟨a1,_⟩:=hq q h3 h4
   have:=h3.len
   omega
  ·simp only [go_sem,Nat.reduceLT,Nat.reduceAdd,Nat.reduceSub,Nat.reduceEqDiff,Nat.reduceBEq,Nat.reduceLeDiff,↓reduceIte]
   have hb2:=(t.getD (k+2) 0).toNat_lt
   rw [wrap_small (n:=((t.getD (k+2) 0).toNat:Int)) (by omega) (by omega),wrap_small (n:=((t.getD (k+2) 0).toNat:Int)-97) (by omega) (by omega)]
   refine ⟨h1,by omega,(k+1,ed++[((t.getD (k+2) 0).toNat:Int)-97]),⟨by show k+1+2≤_;omega,by simp [hl],by show k+1≤6;omega,fun q h3 h4=>?_⟩,by show t.length-(k+1)<_;omega,?_⟩
   ·obtain ⟨a1,a2,a3,a4⟩:=hq q h3 h4
    have hlt:k<q.ed.length:=by omega
    have hr:=h3.ed k hlt
    have hx:(t.getD (k+2) 0)=edgB (q.ed.getD k 0):=by rw [a4,List.getD_eq_getElem?_getD,List.getElem?_map,List.getElem?_eq_getElem hlt,getD_lt hlt];rfl
    show ed++_=q.ed.take (k+1)
    rw [take_snoc hlt 0,he q h3 h4,hx,edg_nat hr,Int.add_comm 97,Int.add_sub_cancel]
   ·rw [wrap_small (by omega) (by omega)];rfl
  ·obtain ⟨a1,a2,a3,a4⟩:=hq q h3 h4
   have h5:=he q h3 h4
   rw [List.take_of_length_le (by omega)] at h5
   rw [h5,show ((t.getD 1 0).toNat:Int)-48=q.st by omega]
end Go.D3
