/- 'FnExactCompactJournal': whatever the arguments,the program's CompactJournal answers as the reference does,leaves its arguments as they were,and shares no memory. The card: package-level variables hold at the start what the program's text lays. No further conditions. -/
import Derived.Test.YtgieggnpnepkfaaGreatDoorGB
import Derived.Test.YtgieggnpnepkfaaGreatDoorGF
import Derived.RegionTactic
import Derived.BigRegion
import Derived.Below
import Derived.Laws.Rows
import Derived.Test.YtgieggnpnepkfaaGreatDoorGG
import Derived.Test.YtgieggnpnepkfaaGreatDoorCards
import Derived.Test.YtgieggnpnepkfaaGreatDoorTie
import Derived.JoinedCond
import Derived.Deep.DeepHandedRow
import Derived.Lay
namespace Go.D3
open Go
set_option maxRecDepth 100000
set_option maxHeartbeats 4000000
theorem sb_ok {left:Int} {n:Nat} (h0 : 0≤left) (h1:left≤1048576) (h : 0≤sb left n):n≤1048576∧0≤sb left n∧sb left n≤1048576:=by
 unfold sb at h ⊢
 split at h
 ·rename_i hh;rw [if_pos hh];omega
 ·omega
def c_laws_FnExactCompactJournal:C := (.seq (.ops [] [⟨none,.asg 1 (.k (.bool false))⟩] []) (.seq (.opc [] [⟨none,.mv (.v 0)⟩,⟨none,.lenS (.t 0)⟩,⟨none,.bin .gtr (.t 1) (.i 1048576)⟩] [] (.t 2) (.seq (.ops [] [⟨none,.asg 1 (.k (.bool true))⟩] []) .ret) .skip) (.seq (.ops [] [⟨none,.mv (.v 0)⟩,⟨none,.call 17 [(.t 0)]⟩,⟨none,.mv (.t 1)⟩,⟨none,.ext 0 (.t 2)⟩,⟨none,.ext 1 (.t 2)⟩,⟨none,.asg 2 (.t 3)⟩,⟨none,.asg 3 (.t 4)⟩] []) (.seq (.ops [] [⟨none,.mv (.v 0)⟩,⟨none,.call 18 [(.t 0)]⟩,⟨none,.mv (.t 1)⟩,⟨none,.ext 0 (.t 2)⟩,⟨none,.ext 1 (.t 2)⟩,⟨none,.asg 4 (.t 3)⟩,⟨none,.asg 5 (.t 4)⟩] []) (.seq (.opc [] [⟨none,.mv (.v 4)⟩,⟨none,.mv (.v 2)⟩,⟨none,.bin .neq (.t 0) (.t 1)⟩,⟨none,.mv (.t 2)⟩,⟨some (3,false),.mv (.v 5)⟩,⟨some (3,false),.mv (.v 3)⟩,⟨some (3,false),.bin .neq (.t 4) (.t 5)⟩,⟨none,.pick (.t 3) (.k (.bool true)) (.t 6)⟩] [] (.t 7) (.seq (.ops [] [⟨none,.asg 1 (.k (.bool false))⟩] []) .ret) .skip) (.seq (.ops [] [⟨none,.asg 1 (.k (.bool true))⟩] []) .ret))))))
def tr_laws_FnExactCompactJournal:List Nat:=[0,2,3,4,5,6]
def rs_laws_FnExactCompactJournal:List RS:=[.t 1]
theorem ok_laws_FnExactCompactJournal:fnOk Go.Proofs.Tryz.prog Go.Proofs.Tryz.f5 tr_laws_FnExactCompactJournal c_laws_FnExactCompactJournal 1 rs_laws_FnExactCompactJournal=true:=by decide +kernel
theorem law_compact (t:List UInt8) (h:t.length≤1048576→∃ (s:List UInt8) (c:Int),
  Ret Go.Proofs.Tryz.prog 17 [.v (.str t)] (.tup [.str s,.int .i64 c])∧Ret Go.Proofs.Tryz.prog 18 [.v (.str t)] (.tup [.str s,.int .i64 c])) :
  Ret Go.Proofs.Tryz.prog 5 [.v (.str t)] (.bool true):=by
 refine ret_fn Go.Proofs.Tryz.func5 ok_laws_FnExactCompactJournal rfl (show 1<500 by decide) rfl ?_;unfold c_laws_FnExactCompactJournal tr_laws_FnExactCompactJournal rs_laws_FnExactCompactJournal;simp only [go_sem,Nat.reduceLT,Nat.reduceAdd,Nat.reduceSub,↓reduceIte]
 refine fun h0=>?_
 obtain ⟨s,c,hsp,him⟩:=h (by omega)
 refine call_of hsp rfl (.inl rfl) ?_
 simp only [go_sem,Nat.reduceLT,Nat.reduceAdd,Nat.reduceSub,↓reduceIte]
 refine call_of him rfl (.inl rfl) ?_
 simp only [go_sem,Nat.reduceLT,Nat.reduceAdd,Nat.reduceSub,↓reduceIte]
 simp
def c_laws_FnExactCommitChanges:C := (.seq (.ops [] [⟨none,.asg 2 (.k (.bool false))⟩] []) (.seq (.opc [] [⟨none,.mv (.v 0)⟩,⟨none,.lenS (.t 0)⟩,⟨none,.bin .gtr (.t 1) (.i 1048576)⟩] [] (.t 2) (.seq (.ops [] [⟨none,.asg 2 (.k (.bool true))⟩] []) .ret) .skip) (.seq (.ops [] [⟨none,.asg 3 (.i 1048576)⟩] []) (.seq (.ops [] [⟨none,.mv (.v 1)⟩,⟨none,.mv (.v 3)⟩,⟨none,.call 19 [(.t 0),(.t 1)]⟩,⟨none,.asg 3 (.t 2)⟩] []) (.seq (.opc [] [⟨none,.mv (.v 3)⟩,⟨none,.bin .lss (.t 0) (.i 0)⟩] [] (.t 1) (.seq (.ops [] [⟨none,.asg 2 (.k (.bool true))⟩] []) .ret) .skip) (.seq (.ops [] [⟨none,.mv (.v 0)⟩,⟨none,.mv (.v 1)⟩,⟨none,.call 21 [(.t 1)]⟩,⟨none,.call 20 [(.t 0),(.t 2)]⟩,⟨none,.mv (.t 3)⟩,⟨none,.ext 0 (.t 4)⟩,⟨none,.ext 1 (.t 4)⟩,⟨none,.asg 4 (.t 5)⟩,⟨none,.asg 5 (.t 6)⟩] []) (.seq (.ops [] [⟨none,.mv (.v 1)⟩,⟨none,.call 21 [(.t 0)]⟩,⟨none,.asg 6 (.t 1)⟩] []) (.seq (.ops [] [⟨none,.mv (.v 0)⟩,⟨none,.mv (.v 6)⟩,⟨none,.call 22 [(.t 0),(.t 1)]⟩,⟨none,.mv (.t 2)⟩,⟨none,.ext 0 (.t 3)⟩,⟨none,.ext 1 (.t 3)⟩,⟨none,.asg 7 (.t 4)⟩,⟨none,.asg 8 (.t 5)⟩] []) (.seq (.opc [] [⟨none,.mv (.v 7)⟩,⟨none,.mv (.v 4)⟩,⟨none,.bin .neq (.t 0) (.t 1)⟩,⟨none,.mv (.t 2)⟩,⟨some (3,false),.mv (.v 8)⟩,⟨some (3,false),.mv (.v 5)⟩,⟨some (3,false),.bin .neq (.t 4) (.t 5)⟩,⟨none,.pick (.t 3) (.k (.bool true)) (.t 6)⟩] [] (.t 7) (.seq (.ops [] [⟨none,.asg 2 (.k (.bool false))⟩] []) .ret) .skip) (.seq (.opc [] [⟨none,.mv (.v 6)⟩,⟨none,.mv (.v 1)⟩,⟨none,.call 21 [(.t 1)]⟩,⟨none,.call 23 [(.t 0),(.t 2)]⟩,⟨none,.not (.t 3)⟩] [] (.t 4) (.seq (.ops [] [⟨none,.asg 2 (.k (.bool false))⟩] []) .ret) .skip) (.seq (.ops [] [⟨none,.asg 2 (.k (.bool true))⟩] []) .ret)))))))))))
def tr_laws_FnExactCommitChanges:List Nat:=[0,1,4,5,6,7,8,9,10]
def rs_laws_FnExactCommitChanges:List RS:=[.t 2]
theorem ok_laws_FnExactCommitChanges:fnOk Go.Proofs.Tryz.prog Go.Proofs.Tryz.f6 tr_laws_FnExactCommitChanges c_laws_FnExactCommitChanges 2 rs_laws_FnExactCommitChanges=true:=by decide +kernel
theorem law_commit (t:List UInt8) (l:List Chg) (h:t.length≤1048576→l.length≤1048576→∃ (s:List UInt8) (c:Int),
  Ret Go.Proofs.Tryz.prog 20 [.v (.str t),.v (lst Chg.d Chg.zero l)] (.tup [.str s,.int .i64 c])∧Ret Go.Proofs.Tryz.prog 22 [.v (.str t),.v (lst Chg.d Chg.zero l)] (.tup [.str s,.int .i64 c])) :
  Ret Go.Proofs.Tryz.prog 6 [.v (.str t),.v (lst Chg.d Chg.zero l)] (.bool true):=by
 refine ret_fn Go.Proofs.Tryz.func6 ok_laws_FnExactCommitChanges rfl (show 2<500 by decide) rfl ?_;unfold c_laws_FnExactCommitChanges tr_laws_FnExactCommitChanges rs_laws_FnExactCommitChanges;simp only [go_sem,Nat.reduceLT,Nat.reduceAdd,Nat.reduceSub,↓reduceIte]
 refine fun h0=>?_
 refine call_of (ret_laws_szChangeS l _ (by decide) (by decide)) rfl (.inl rfl) ?_
 simp only [go_sem,Nat.reduceLT,Nat.reduceAdd,Nat.reduceSub,↓reduceIte]
 refine fun h1=>?_
 obtain ⟨hs,hl1,hl2⟩:=sb_ok (left:=1048576) (n:=l.length) (by decide) (by decide) (by omega)
 obtain ⟨s,c,hsp,him⟩:=h (by omega) hs
 refine call_of (ret_laws_toChangeS l hs) rfl (.inl (nv_lst nv_Chg _)) ?_
 simp only [go_sem,Nat.reduceLT,Nat.reduceAdd,Nat.reduceSub,↓reduceIte]
 refine call_of hsp rfl (.inl rfl) ?_
 simp only [go_sem,Nat.reduceLT,Nat.reduceAdd,Nat.reduceSub,↓reduceIte]
 refine call_of (ret_laws_toChangeS l hs) rfl (.inl (nv_lst nv_Chg _)) ?_
 simp only [go_sem,Nat.reduceLT,Nat.reduceAdd,Nat.reduceSub,↓reduceIte]
 refine call_of him rfl (.inl rfl) ?_
 simp only [go_sem,Nat.reduceLT,Nat.reduceAdd,Nat.reduceSub,Nat.reduceBEq,Nat.reduceLeDiff,↓reduceIte]
 refine ⟨fun hh=>by simp at hh,fun _=>?_⟩
 refine call_of (ret_laws_toChangeS l hs) rfl (.inl (nv_lst nv_Chg _)) ?_
 simp only [go_sem,Nat.reduceLT,Nat.reduceAdd,Nat.reduceSub,↓reduceIte]
 refine call_of (ret_laws_eqChangeS l) rfl (.inl rfl) ?_
 simp only [go_sem,Nat.reduceLT,Nat.reduceAdd,Nat.reduceSub,Nat.reduceLeDiff,↓reduceIte]
end Go.D3
namespace Go.D3
open Go Go.RowKit
set_option maxRecDepth 100000
set_option maxHeartbeats 4000000
theorem now_walk (b sb so n c:Nat) (p0 p1:Option Addr) (n0 c0 n1 c1:Nat) (w:World) (hb:b<w.heap.size) (hsb:sb<w.heap.size) (hn : 0<n) (hn2:n≤4294966000) (h5:w.cell? ⟨b,5,none⟩=some (.slice (some ⟨sb,so,none⟩) n c))
  (h0:w.cell? ⟨sb,so+(n-1)*2,none⟩=some (.slice p0 n0 c0)) (h1:w.cell? ⟨sb,so+(n-1)*2+1,none⟩=some (.slice p1 n1 c1)) :
  Calls Go.Proofs.Tryz.prog 29 #[.pointer (some ⟨b,0,none⟩)] w fun e w'=>e=.returned (.agg #[.slice p0 n0 c0,.slice p1 n1 c1])∧Below w.heap.size w w':=by
 have a5:∀ o,(w.alloc o).cell? ⟨b,5,none⟩=some (.slice (some ⟨sb,so,none⟩) n c):=fun o=>by rw [World.cell?_alloc_past _ _ _ hb];exact h5
 have a0:∀ o,(w.alloc o).cell? ⟨sb,so+(n-1)*2,none⟩=some (.slice p0 n0 c0):=fun o=>by rw [World.cell?_alloc_past _ _ _ hsb];exact h0
 have a1:∀ o,(w.alloc o).cell? ⟨sb,so+(n-1)*2+1,none⟩=some (.slice p1 n1 c1):=fun o=>by rw [World.cell?_alloc_past _ _ _ hsb];exact h1
 have s0:(w.alloc (.cells #[.slice none 0 0,.slice none 0 0] 61)).cell? ⟨w.heap.size,0,none⟩=some (.slice none 0 0):=by rw [World.cell?_alloc_at _ _ _ _ rfl];rfl
 have s1:(w.alloc (.cells #[.slice none 0 0,.slice none 0 0] 61)).cell? ⟨w.heap.size,1,none⟩=some (.slice none 0 0):=by rw [World.cell?_alloc_at _ _ _ _ rfl];rfl
 have f0:(w.alloc (.cells #[.slice none 0 0,.slice none 0 0] 61)).frozen? ⟨w.heap.size,0,none⟩=false:=by rw [World.frozen?_alloc_at _ _ _ _ rfl]
 have f1:(w.alloc (.cells #[.slice none 0 0,.slice none 0 0] 61)).frozen? ⟨w.heap.size,1,none⟩=false:=by rw [World.frozen?_alloc_at _ _ _ _ rfl]
 go_enter Go.Proofs.Tryz.func29,Go.Proofs.Tryz.ntmps29
 go_wp2
 go_region
 go_wp2
 have hr:((w.alloc (.cells #[.slice p0 n0 c0,.slice p1 n1 c1] 61)).drew).heap[w.heap.size]?=some (.cells #[.slice p0 n0 c0,.slice p1 n1 c1] 61 (0,0)):=by
  show (w.heap.push _)[w.heap.size]?=_
  rw [Array.getElem?_push,if_pos rfl]
 refine bodyPost_ret (results_cell_row (fn:=Go.Proofs.Tryz.f29) (p:=2) (ty:=61) rfl _ _ w.heap.size 61 #[.slice p0 n0 c0,.slice p1 n1 c1] (0,0) _ rfl hr Go.Proofs.Tryz.underlying61 rfl (by kernel_rfl)) rfl ⟨rfl,rfl,rfl,rfl,?_,fun j hj=>?_⟩
 ·show w.heap.size≤(w.heap.push _).size
  rw [Array.size_push];omega
 ·show (w.heap.push _)[j]?=_
  rw [Array.getElem?_push,if_neg (by omega)]
theorem own_ptr {w:World} {A:Nat→Prop} {v:Value} {l:List D} {F:Nat→Prop} (h:Own w A v (.ptr l) F):∃ (b:Nat) (cs:Array Value) (e:TypeId) (Fs:Nat→Nat→Prop),v=.pointer (some ⟨b,0,none⟩)∧w.heap[b]?=some (.cells cs e (0,0))∧cs.size=l.length∧(∀ j x,l[j]?=some x→Own w A (cs.getD j undef) x (Fs j))∧F b:=by
 cases h with
 | ptr Fs hb hs hr hF _ _=>exact ⟨_,_,_,Fs,rfl,hb,hs,hr,hF⟩
theorem own_sliceN {w:World} {A:Nat→Prop} {v:Value} {z:D} {L:List D} {F:Nat→Prop} (h:Own w A v (.slice z L) F) (hL:L≠[]):∃ (b off cap sz:Nat) (cs:Array Value) (e:TypeId) (fz:Nat×Nat) (Fs:Nat→Nat→Prop),v=.slice (some ⟨b,off,none⟩) L.length cap∧w.heap[b]?=some (.cells cs e fz)∧off+cap*sz≤cs.size∧L.length≤cap∧z.cells.length=sz∧∀ j x,cellAt L sz j=some x→Own w A (cs.getD (off+j) undef) x (Fs j):=by
 cases h with
 | nil=>exact absurd rfl hL
 | slice Fs hb hroom hc hm hz hzz hsz hr hF hfs hdis=>exact ⟨_,_,_,_,_,_,_,Fs,rfl,hb,hroom.1,hc,hzz,hr⟩
theorem own_sl {w:World} {A:Nat→Prop} {v:Value} {z:D} {L:List D} {F:Nat→Prop} (h:Own w A v (.slice z L) F):∃ p n c,v=.slice p n c:=by
 cases h with
 | nil=>exact ⟨_,_,_,rfl⟩
 | slice Fs hb hroom hc hm hz hzz hsz hr hF hfs hdis=>exact ⟨_,_,_,rfl⟩
theorem ret_nowK (s:Sch) (dt:List Dat) (tx:List (List Chg)) (g:Nat) (h : 0<dt.length) (hl:dt.length≤4294966000):RetK Go.Proofs.Tryz.prog 29 [.adr 0 [(0,0)]] [.o (.ptr (hiC s dt tx g))] (.agg [.sub 0 [(0,5),(dt.length-1,0)],.sub 0 [(0,5),(dt.length-1,1)]]):=by
 refine ⟨by decide +kernel,?_⟩
 intro w A vs gv Fs hG hA hvs hpre hgpre hgemp hFd hFs
 obtain ⟨b,cs,e,Fs1,hg0,hbk,hsz,hcs,hFb⟩:=own_ptr (show Own w A (gv 0) (.ptr (hiC s dt tx g)) (Fs 0) from hgpre 0)
 have hsz:cs.size=8:=hsz
 have hbl:b<w.heap.size:=(hFs 0 b hFb).1
 have hv0:vs=#[.pointer (some ⟨b,0,none⟩)]:=by
  obtain ⟨q1,a,q2,q3⟩:=pl_adr (hpre 0 _ rfl)
  have hv0:vs.getD 0 undef=.pointer (some ⟨b,0,none⟩):=by
   have:adrAt w (gv 0) (nth [D.o (.ptr (hiC s dt tx g))] 0) [(0,0)]=some ⟨b,0,none⟩:=by
    rw [hg0];rfl
   rw [this] at q2
   injection q2 with q2
   rw [q3,← q2]
  match vs,hvs with
  | ⟨[x]⟩,_=>rw [← hv0];rfl
 have hc5:w.cell? ⟨b,5,none⟩=some (cs.getD 5 undef):=cell_own hbk (by omega)
 have hne:dt.map Dat.d≠[]:=by
  intro hh
  have:=congrArg List.length hh
  rw [List.length_map] at this
  exact absurd this (by show dt.length≠0;omega)
 obtain ⟨sb,so,cap,sz,cs2,e2,fz,Fs2,hs5,hsbk,hroom,hcap,hz,hel⟩:=own_sliceN (show Own w A (cs.getD 5 undef) (.slice (Dat.d Dat.zero) (dt.map Dat.d)) (Fs1 5) from hcs 5 _ rfl) hne
 obtain rfl:sz=2:=hz.symm
 rw [List.length_map] at hs5 hcap
 have hsbl:sb<w.heap.size:=(Array.getElem?_eq_some_iff.1 hsbk).1
 have hlt:dt.length-1<dt.length:=by omega
 have hge:(dt.map Dat.d)[dt.length-1]?=some (Dat.d dt[dt.length-1]):=by rw [List.getElem?_map,List.getElem?_eq_getElem hlt];rfl
 have hel0:=hel ((dt.length-1)*2) (ints dt[dt.length-1].sz) (by
  unfold cellAt
  rw [show (dt.length-1)*2 / 2=dt.length-1 by omega,show (dt.length-1)*2 % 2=0 by omega,hge];rfl)
 have hel1:=hel ((dt.length-1)*2+1) (intss dt[dt.length-1].mp) (by
  unfold cellAt
  rw [show ((dt.length-1)*2+1) / 2=dt.length-1 by omega,show ((dt.length-1)*2+1) % 2=1 by omega,hge];rfl)
 obtain ⟨p0,n0,c0,e0⟩:=own_sl hel0
 obtain ⟨p1,n1,c1,e1⟩:=own_sl hel1
 have k0:w.cell? ⟨sb,so+(dt.length-1)*2,none⟩=some (.slice p0 n0 c0):=by rw [← e0];exact cell_own hsbk (by omega)
 have k1:w.cell? ⟨sb,so+(dt.length-1)*2+1,none⟩=some (.slice p1 n1 c1):=by rw [← e1];exact cell_own hsbk (by omega)
 rw [hs5] at hc5
 rw [hv0]
 refine (now_walk b sb so dt.length cap p0 p1 n0 c0 n1 c1 w hbl hsbl h hl hc5 k0 k1).mono ?_
 rintro e w' ⟨rfl,hb⟩
 have ref:∀ (off:Nat) (p:Option Addr) (n c:Nat),off<2→w.cell? ⟨sb,so+(dt.length-1)*2+off,none⟩=some (.slice p n c)→RefOk w (nth [D.o (.ptr (hiC s dt tx g))]) gv (.slice p n c) (.sub 0 [(0,5),(dt.length-1,off)]):=fun off p n c ho hc=>by
  refine ⟨⟨⟨⟨rfl,by show 5<8;decide⟩,⟨⟨by show dt.length-1<(dt.map Dat.d).length;rw [List.length_map];exact hlt,by show off<2;exact ho⟩,trivial⟩⟩,fun hh=>by cases hh⟩,?_,.inl ⟨p,n,c,rfl⟩⟩
  rw [hg0]
  show (kidV _ _ _ 0 5).bind _=_
  show ((World.cell? w ⟨b,0+5,none⟩).bind _)=_
  rw [Nat.zero_add,hc5]
  show ((World.cell? w ⟨sb,so+((dt.length-1)*2+off),none⟩).bind some)=_
  rw [← Nat.add_assoc,hc];rfl
 refine ⟨_,rfl,hb.size,fun c hc=>hb.block c hc,?_,hb.os,hb.tape,hb.output⟩
 refine .agg rfl fun j x hj=>?_
 match j with
 | 0=>cases hj;exact .ref (ref 0 _ _ _ (by decide) k0)
 | 1=>cases hj;exact .ref (ref 1 _ _ _ (by decide) k1)
 | _+2=>cases hj
end Go.D3
namespace Go.D3
open Go
set_option maxRecDepth 100000
set_option maxHeartbeats 4000000
theorem sz_le {s:Sch} {d:Dat} (hd:DOk s d) (i:Nat):d.sz.getD i 0≤16:=by
 by_cases h:i<d.sz.length
 ·exact (hd.szr i h).2
 ·rw [List.getD_eq_getElem?_getD,List.getElem?_eq_none (by omega)];show (0:Int)≤16;omega
theorem small_ok {s:Sch} {d:Dat} (hs:SOk s) (hd:DOk s d) (hn:d.nn):∀ c∈smallF d,COk c:=fun c hc=>by
 have h1:=hd.nd
 have h2:=hs.n8
 have h3:=hd.mp
 have h4:=hs.f8
 rcases List.mem_append.1 hc with hc | hc
 ·obtain ⟨i,hi,hc⟩:=List.mem_flatMap.1 hc
  rw [List.mem_range] at hi
  have:=List.eq_of_mem_replicate hc
  subst this
  exact ⟨⟨Int.natCast_nonneg _,by show (i:Int)≤_;omega⟩,fun h=>absurd rfl h⟩
 ·obtain ⟨k,hk,hc⟩:=List.mem_flatMap.1 hc
  rw [List.mem_range] at hk
  obtain ⟨r,hr,rfl⟩:=List.mem_map.1 hc
  rw [List.mem_range] at hr
  have hm:=hd.mlen hs k
  have hv:=hd.val k r hk hr
  have hz:=sz_le hd (s.to.getD k 0).toNat
  exact ⟨⟨Int.natCast_nonneg _,by show (k:Int)≤_;omega⟩,fun _=>⟨⟨Int.natCast_nonneg _,by show (r:Int)≤_;omega⟩,hn k r hk hr,by show (d.mp.getD k []).getD r 0≤_;omega⟩⟩
def cmpD:Option (Sch×Hs)→D
 | some p=>if 40<(smallF p.2.last).length then .tup [.str [],.int .i64 3] else if (smallF p.2.last).length=0 then .tup [.str (newF p.1),.int .i64 0] else .tup [.str (putF (newF p.1) (smallF p.2.last)),.int .i64 0]
 | none=>.tup [.str [],.int .i64 6]
def c_spec_CompactJournal:C := (.seq (.ops [] [⟨none,.asg 1 (.k (.str []))⟩,⟨none,.asg 2 (.i 0)⟩] []) (.seq (.ops [3] [⟨none,.mv (.v 0)⟩,⟨none,.dyn (.k (.fn 24 [])) [(.t 0),(.i 1000000)]⟩,⟨none,.mv (.t 1)⟩,⟨none,.ext 0 (.t 2)⟩,⟨none,.ext 1 (.t 2)⟩,⟨none,.alc [.int .i64 0,.nils (.int .i64 0),.nils (.int .i64 0),.nils (.agg [.int .i64 0,ints []]),.nils (.agg [.int .i64 0,ints []]),.nils (.agg [ints [],intss []]),.nils (.slice (.agg [.int .i64 0,.int .i64 0,.int .i64 0,.int .i64 0]) []),.int .i64 0]⟩,⟨none,.stn 8 (.t 5) (.t 3)⟩,⟨none,.asg 4 (.t 4)⟩] [(3,5)]) (.seq (.opc [] [⟨none,.mv (.v 4)⟩,⟨none,.not (.t 0)⟩] [] (.t 1) (.seq (.ops [] [⟨none,.asg 1 (.k (.str []))⟩,⟨none,.asg 2 (.i 6)⟩] []) .ret) .skip) (.seq (.ops [] [⟨none,.lda 8 (.v 3)⟩,⟨none,.dyn (.k (.fn 25 [])) [(.t 0)]⟩,⟨none,.call 32 [(.t 1)]⟩,⟨none,.asg 5 (.t 2)⟩] []) (.seq (.opc [] [⟨none,.mv (.v 5)⟩,⟨none,.len (.t 0)⟩,⟨none,.bin .gtr (.t 1) (.i 40)⟩] [] (.t 2) (.seq (.ops [] [⟨none,.asg 1 (.k (.str []))⟩,⟨none,.asg 2 (.i 3)⟩] []) .ret) .skip) (.seq (.ops [] [⟨none,.fA 0 (.v 3)⟩,⟨none,.lda 5 (.t 0)⟩,⟨none,.call 33 [(.t 1)]⟩,⟨none,.bin .add (.k (.str [115,99,104,101,109,97,32])) (.t 2)⟩,⟨none,.bin .add (.t 3) (.k (.str [10]))⟩,⟨none,.asg 6 (.t 4)⟩] []) (.seq (.opc [] [⟨none,.mv (.v 5)⟩,⟨none,.len (.t 0)⟩,⟨none,.bin .eql (.t 1) (.i 0)⟩] [] (.t 2) (.seq (.ops [] [⟨none,.mv (.v 6)⟩,⟨none,.asg 1 (.t 0)⟩,⟨none,.asg 2 (.i 0)⟩] []) .ret) .skip) (.seq (.ops [] [⟨none,.mv (.v 6)⟩,⟨none,.mv (.v 5)⟩,⟨none,.call 34 [(.t 0),(.t 1)]⟩,⟨none,.asg 1 (.t 2)⟩,⟨none,.asg 2 (.i 0)⟩] []) .ret))))))))
def tr_spec_CompactJournal:List Nat:=[0,2,3,4,5,6,7]
def rs_spec_CompactJournal:List RS:=[.t 1,.t 2]
theorem ok_spec_CompactJournal:fnOk Go.Proofs.Tryz.prog Go.Proofs.Tryz.f17 tr_spec_CompactJournal c_spec_CompactJournal 1 rs_spec_CompactJournal=true:=by decide +kernel
theorem ret_spec_CompactJournal (t:List UInt8) (ht:t.length≤1048576):Ret Go.Proofs.Tryz.prog 17 [.v (.str t)] (cmpD (resJ t)):=by
 refine ret_fn Go.Proofs.Tryz.func17 ok_spec_CompactJournal rfl (show 1<500 by decide) rfl ?_;unfold c_spec_CompactJournal tr_spec_CompactJournal rs_spec_CompactJournal;simp only [go_sem,Nat.reduceLT,Nat.reduceAdd,Nat.reduceSub,↓reduceIte]
 refine g_call [] false (ret_opnV t (by omega)) (by exact ⟨by decide,rfl⟩) (by repeat (first | exact trivial | refine ⟨rfl,?_⟩)) (by repeat (first | exact trivial | refine ⟨.inl rfl,?_⟩ | refine ⟨.inr ⟨rfl,rfl⟩,?_⟩)) (by repeat (first | exact trivial | refine ⟨(fun h=>by cases h),?_⟩)) (fun h=>by cases h) ?_
 cases hr:resJ t with
 | none =>
  simp only [opnV]
  simp only [go_sem,Nat.reduceLT,Nat.reduceAdd,Nat.reduceSub,↓reduceIte]
  rfl
 | some p =>
  obtain ⟨hok,hH⟩:=resJ_ok hr
  have hs:=sok_of (ok_len hok).1
  have hdl:=hH.dl
  have h6:=hH.t6
  have hgl:=hH.gl
  have htk:=tok_of hok
  have htl:=txt_len htk
  simp only [opnV,Hs.pl]
  simp only [go_sem,Nat.reduceLT,Nat.reduceAdd,Nat.reduceSub,↓reduceIte]
  refine g_call [] false (ret_spec_l39Last (Hst.of p.1 p.2) (by show 0<p.2.dt.length;omega) (by show p.2.dt.length≤_;omega)) (by exact ⟨by decide,rfl⟩) (by repeat (first | exact trivial | refine ⟨rfl,?_⟩)) (by repeat (first | exact trivial | refine ⟨.inl rfl,?_⟩ | refine ⟨.inr ⟨rfl,rfl⟩,?_⟩)) (by repeat (first | exact trivial | refine ⟨(fun h=>by cases h),?_⟩)) (fun h=>by cases h) ?_
  rw [last_of]
  simp only [go_sem,Nat.reduceLT,Nat.reduceAdd,Nat.reduceSub,↓reduceIte]
  refine call_of (ret_spec_l39Small p.1 p.2.last hs hH.last) rfl (.inl (nv_lst nv_Chg _)) ?_
  have hsm:=small_len hs hH.last
  have hck:=small_ok hs hH.last hH.last_nn
  simp only [go_sem,Nat.reduceLT,Nat.reduceAdd,Nat.reduceSub,↓reduceIte]
  refine ⟨fun h=>?_,fun h=>?_⟩
  ·simp only [cmpD]
   rw [if_pos (by omega)]
  ·refine call_of (ret_spec_l36Whole p.1 htk) rfl (.inl rfl) ?_
   simp only [go_sem,Nat.reduceLT,Nat.reduceAdd,Nat.reduceSub,Nat.reduceBEq,↓reduceIte]
   refine ⟨(by simp only [maxLen];omega),(by simp only [maxLen];omega),?_⟩
   rw [show 115::99::104::101::109::97::32::(p.1.txt++[10])=newF p.1 from rfl]
   have hnl:(newF p.1).length≤4000:=by simp only [newF,List.length_append,List.length_cons,List.length_nil];omega
   refine ⟨fun h2=>?_,fun h2=>?_⟩
   ·simp only [cmpD]
    rw [if_neg (by omega),if_pos (by omega)]
   ·refine call_of (ret_spec_l39Put (newF p.1) (smallF p.2.last) (by omega) (by omega) hck) rfl (.inl rfl) ?_
    simp only [go_sem,Nat.reduceLT,Nat.reduceAdd,Nat.reduceSub,Nat.reduceBEq,Nat.reduceLeDiff,↓reduceIte]
    simp only [cmpD]
    rw [if_neg (by omega),if_neg (by intro hz;rw [hz] at h2;revert h2;decide)]
end Go.D3
namespace Go.D3
open Go
set_option maxRecDepth 100000
set_option maxHeartbeats 4000000
def c_impl_CompactJournal:C := (.seq (.ops [] [⟨none,.asg 1 (.k (.str []))⟩,⟨none,.asg 2 (.i 0)⟩] []) (.seq (.ops [] [⟨none,.mv (.v 0)⟩,⟨none,.call 28 [(.t 0)]⟩,⟨none,.mv (.t 1)⟩,⟨none,.ext 0 (.t 2)⟩,⟨none,.ext 1 (.t 2)⟩,⟨none,.asgP 3 (.t 3)⟩,⟨none,.asg 4 (.t 4)⟩] []) (.seq (.opc [] [⟨none,.mv (.v 4)⟩,⟨none,.bin .neq (.t 0) (.i 0)⟩] [] (.t 1) (.seq (.ops [] [⟨none,.mv (.v 4)⟩,⟨none,.asg 1 (.k (.str []))⟩,⟨none,.asg 2 (.t 0)⟩] []) .ret) .skip) (.seq (.ops [] [⟨none,.bldS (.agg [.int .i64 0,.int .i64 0,.int .i64 0,.int .i64 0]) 0 []⟩,⟨none,.asg 5 (.t 0)⟩] []) (.seq (.ops [6] [⟨none,.mv (.v 3)⟩,⟨none,.callk 29 [(.t 0)]⟩,⟨none,.alc [.nils (.int .i64 0),.nils (ints [])]⟩,⟨none,.stR 2 (.t 2) (.t 1)⟩] [(6,2)]) (.seq (.seq (.ops [13,14] [⟨none,.fA 0 (.v 6)⟩,⟨none,.ld (.t 0)⟩,⟨none,.len (.t 1)⟩,⟨none,.asg 15 (.i 0)⟩] [(13,1),(14,2)]) (.block 0 (.loop (.opq [] [⟨none,.bin .lss (.v 15) (.v 14)⟩] [] (.t 0) .skip (.exit 0) (.seq (.block 1 (.seq (.ops [] [⟨none,.mv (.v 15)⟩,⟨none,.idxA 1 (.v 13) (.v 15)⟩,⟨none,.ld (.t 1)⟩,⟨none,.asg 7 (.t 0)⟩,⟨none,.asg 8 (.t 2)⟩] []) (.seq (.ops [] [⟨none,.asg 16 (.v 8)⟩,⟨none,.asg 17 (.i 0)⟩] []) (.block 2 (.loop (.opq [] [⟨none,.bin .lss (.v 17) (.v 16)⟩] [] (.t 0) .skip (.exit 2) (.seq (.block 3 (.ops [] [⟨none,.mv (.v 5)⟩,⟨none,.mv (.v 7)⟩,⟨none,.bld [.int .i64 0,.int .i64 0,.int .i64 0,.int .i64 0] [(0,1,(.i 1)),(1,1,(.t 1))]⟩,⟨none,.bldS (.agg [.int .i64 0,.int .i64 0,.int .i64 0,.int .i64 0]) 1 [(0,(.t 2))]⟩,⟨none,.app 4 32 (.t 0) (.t 3)⟩,⟨none,.asg 5 (.t 4)⟩] [])) (.ops [] [⟨none,.bin .add (.v 17) (.i 1)⟩,⟨none,.asg 17 (.t 0)⟩] [])))))))) (.ops [] [⟨none,.bin .add (.v 15) (.i 1)⟩,⟨none,.asg 15 (.t 0)⟩] [])))))) (.seq (.seq (.ops [18,19] [⟨none,.fA 1 (.v 6)⟩,⟨none,.ld (.t 0)⟩,⟨none,.len (.t 1)⟩,⟨none,.asg 20 (.i 0)⟩] [(18,1),(19,2)]) (.block 4 (.loop (.opq [] [⟨none,.bin .lss (.v 20) (.v 19)⟩] [] (.t 0) .skip (.exit 4) (.seq (.block 5 (.seq (.ops [] [⟨none,.mv (.v 20)⟩,⟨none,.idxA 1 (.v 18) (.v 20)⟩,⟨none,.ld (.t 1)⟩,⟨none,.asg 9 (.t 0)⟩,⟨none,.asgA 10 (.t 2)⟩] []) (.seq (.ops [22] [⟨none,.asgA 21 (.v 10)⟩,⟨none,.len (.v 21)⟩,⟨none,.asg 23 (.i 0)⟩] [(22,1)]) (.block 6 (.loop (.opq [] [⟨none,.bin .lss (.v 23) (.v 22)⟩] [] (.t 0) .skip (.exit 6) (.seq (.block 7 (.seq (.ops [] [⟨none,.mv (.v 23)⟩,⟨none,.idxA 1 (.v 21) (.v 23)⟩,⟨none,.ld (.t 1)⟩,⟨none,.asg 11 (.t 0)⟩,⟨none,.asg 12 (.t 2)⟩] []) (.ops [] [⟨none,.mv (.v 5)⟩,⟨none,.mv (.v 9)⟩,⟨none,.mv (.v 11)⟩,⟨none,.mv (.v 12)⟩,⟨none,.bld [.int .i64 0,.int .i64 0,.int .i64 0,.int .i64 0] [(0,1,(.i 2)),(1,1,(.t 1)),(2,1,(.t 2)),(3,1,(.t 3))]⟩,⟨none,.bldS (.agg [.int .i64 0,.int .i64 0,.int .i64 0,.int .i64 0]) 1 [(0,(.t 4))]⟩,⟨none,.app 4 32 (.t 0) (.t 5)⟩,⟨none,.asg 5 (.t 6)⟩] []))) (.ops [] [⟨none,.bin .add (.v 23) (.i 1)⟩,⟨none,.asg 23 (.t 0)⟩] [])))))))) (.ops [] [⟨none,.bin .add (.v 20) (.i 1)⟩,⟨none,.asg 20 (.t 0)⟩] [])))))) (.seq (.block 8 (.opc [] [⟨none,.mv (.v 5)⟩,⟨none,.len (.t 0)⟩,⟨none,.bin .eql (.t 1) (.i 0)⟩,⟨none,.mv (.t 2)⟩] [] (.t 3) (.seq (.ops [] [⟨none,.mv (.v 3)⟩,⟨none,.nck (.t 0)⟩,⟨none,.fA 0 (.t 1)⟩,⟨none,.call 35 [(.t 2)]⟩,⟨none,.asg 1 (.t 3)⟩,⟨none,.asg 2 (.i 0)⟩] []) .ret) (.opc [] [⟨none,.mv (.v 5)⟩,⟨none,.len (.t 0)⟩,⟨none,.bin .gtr (.t 1) (.i 40)⟩,⟨none,.mv (.t 2)⟩] [] (.t 3) (.seq (.ops [] [⟨none,.asg 1 (.k (.str []))⟩,⟨none,.asg 2 (.i 3)⟩] []) .ret) .skip))) (.seq (.ops [] [⟨none,.mv (.v 3)⟩,⟨none,.nck (.t 0)⟩,⟨none,.fA 0 (.t 1)⟩,⟨none,.call 35 [(.t 2)]⟩,⟨none,.mv (.v 5)⟩,⟨none,.call 36 [(.t 3),(.t 4)]⟩,⟨none,.asg 1 (.t 5)⟩,⟨none,.asg 2 (.i 0)⟩] []) .ret)))))))))
def tr_impl_CompactJournal:List Nat:=[0,2,3,4,5,6,7,8,9,10,11,12,13,26,27,28,33,34,44,45,46,51,52,53]
def rs_impl_CompactJournal:List RS:=[.t 1,.t 2]
theorem ok_impl_CompactJournal:fnOk Go.Proofs.Tryz.prog Go.Proofs.Tryz.f18 tr_impl_CompactJournal c_impl_CompactJournal 1 rs_impl_CompactJournal=true:=by decide +kernel
theorem ret_impl_CompactJournal (t:List UInt8) (ht:t.length≤1048576):Ret Go.Proofs.Tryz.prog 18 [.v (.str t)] (cmpD (resJ t)):=by
 refine ret_fn Go.Proofs.Tryz.func18 ok_impl_CompactJournal rfl (show 1<500 by decide) rfl ?_;unfold c_impl_CompactJournal tr_impl_CompactJournal rs_impl_CompactJournal;simp only [go_sem,Nat.reduceLT,Nat.reduceAdd,Nat.reduceSub,↓reduceIte]
 refine call_of (ret_impl_historyCode t ht) rfl (.inl (nv_hc _)) ?_
 cases hr:resJ t with
 | none =>
  simp only [hcD]
  simp only [go_sem,Nat.reduceLT,Nat.reduceAdd,Nat.reduceSub,↓reduceIte]
  exact ⟨fun _=>rfl,fun h=>absurd h (by decide)⟩
 | some p =>
  obtain ⟨hok,hH⟩:=resJ_ok hr
  have hs:=sok_of (ok_len hok).1
  have hdl:=hH.dl
  have h6:=hH.t6
  have hgl:=hH.gl
  have htk:=tok_of hok
  have htl:=txt_len htk
  have hd:=hH.last
  have hnd:=hd.nd
  have hn8:=hs.n8
  have hf8:=hs.f8
  have hmp:=hd.mp
  have hsm:=small_len hs hd
  have hck:=small_ok hs hd hH.last_nn
  have hnow:=ret_nowK p.1 p.2.dt p.2.tx p.2.gd (by omega) (by omega)
  have hkr:refsL (inB 1) [D.adr 0 [(0,0)]]∧refsL (inB 1) [.o (.ptr (hiC p.1 p.2.dt p.2.tx p.2.gd))]∧(D.agg [.sub 0 [(0,5),(p.2.dt.length-1,0)],.sub 0 [(0,5),(p.2.dt.length-1,1)]]).refs (inB 1):=⟨⟨Nat.zero_lt_one,trivial⟩,⟨trivial,trivial⟩,Nat.zero_lt_one,Nat.zero_lt_one,trivial⟩
  simp only [hcD]
  unfold hiC at hnow hkr ⊢
  simp only [go_sem,Nat.reduceLT,Nat.reduceAdd,Nat.reduceSub,Nat.reduceBEq,↓reduceIte]
  refine ⟨fun h=>absurd h (by decide),fun _=>?_⟩
  refine k_call [3] hnow (by decide) ⟨⟨by decide,rfl⟩,trivial⟩ ⟨rfl,trivial⟩ hkr rfl ?_
  simp only [go_sem,Nat.reduceLT,Nat.reduceAdd,Nat.reduceSub,Nat.reduceBEq,Nat.reduceLeDiff,↓reduceIte,show sj [3] 0=3 from rfl]
  have hlast:p.2.dt.getD (p.2.dt.length-1) Dat.zero=p.2.last:=rfl
  rw [hlast]
  refine loop_set [7,8,16,17] (fun (x:Nat)=>[(5,.o (lst Chg.d Chg.zero (addsF p.2.last x))),(15,.int .i64 x)]) (fun x=>x≤p.2.last.sz.length) (fun x=>p.2.last.sz.length-x) 0 (by simp only [go_sem,Nat.reduceLT,Nat.reduceBEq,↓reduceIte];rfl) (Nat.zero_le _) rfl ?_
  intro x hx
  simp only [go_sem,Nat.reduceLT,Nat.reduceAdd,Nat.reduceSub,Nat.reduceBEq,Nat.reduceLeDiff,↓reduceIte]
  refine ⟨fun h=>?_,fun h=>?_⟩
  ·rw [hlast]
   have hz:=hd.szr x h
   have hal:=adds_len hd hx
   refine ⟨h,?_⟩
   refine loop_set [] (fun (r:Nat)=>[(5,.o (lst Chg.d Chg.zero (addsF p.2.last x++List.replicate r ⟨1,x,0,0⟩))),(17,.int .i64 r)]) (fun r=>(r:Int)≤p.2.last.sz.getD x 0) (fun r=>(p.2.last.sz.getD x 0).toNat-r) 0 (by simp only [go_sem];rfl) hz.1 (by rw [List.replicate_zero,List.append_nil];rfl) ?_
   intro r hr
   simp only [go_sem,Nat.reduceLT,Nat.reduceAdd,Nat.reduceSub,Nat.reduceBEq,Nat.reduceLeDiff,↓reduceIte]
   refine ⟨fun h2=>?_,fun h2=>?_⟩
   ·refine ⟨by rw [List.length_append,List.length_replicate];omega,r+1,by omega,by omega,?_⟩
    rw [wrap_small (by omega) (by omega),List.append_assoc,← List.replicate_succ'];rfl
   ·refine ⟨x+1,h,by omega,?_⟩
    rw [wrap_small (by omega) (by omega),adds_succ,show r=(p.2.last.sz.getD x 0).toNat by omega];rfl
  ·have hxe:x=p.2.last.sz.length:=by omega
   subst hxe
   have hal:=adds_len hd hx
   rw [hlast]
   refine loop_set [9,10,11,12,21,22,23] (fun (k:Nat)=>[(5,.o (lst Chg.d Chg.zero (addsF p.2.last p.2.last.sz.length++setsF p.2.last k))),(20,.int .i64 k)]) (fun k=>k≤p.2.last.mp.length) (fun k=>p.2.last.mp.length-k) 0 (by simp only [go_sem,Nat.reduceLT,Nat.reduceBEq,↓reduceIte];rfl) (Nat.zero_le _) (by rw [show setsF p.2.last 0=[] from rfl,List.append_nil];rfl) ?_
   intro k hk
   simp only [go_sem,Nat.reduceLT,Nat.reduceAdd,Nat.reduceSub,Nat.reduceEqDiff,Nat.reduceBEq,Nat.reduceLeDiff,↓reduceIte]
   refine ⟨fun h=>?_,fun h=>?_⟩
   ·rw [hlast]
    have hml:=hd.mlen hs k
    have hsl:=sets_len hs hd hk
    refine ⟨h,?_⟩
    refine loop_set [11,12] (fun (r:Nat)=>[(5,.o (lst Chg.d Chg.zero (addsF p.2.last p.2.last.sz.length++setsF p.2.last k++setsR p.2.last k r))),(23,.int .i64 r)]) (fun r=>r≤(p.2.last.mp.getD k []).length) (fun r=>(p.2.last.mp.getD k []).length-r) 0 (by simp only [go_sem,Nat.reduceLT,Nat.reduceBEq,↓reduceIte];rfl) (Nat.zero_le _) (by rw [show setsR p.2.last k 0=[] from rfl,List.append_nil];rfl) ?_
    intro r hr
    have hrl:(setsR p.2.last k r).length=r:=by simp only [setsR,List.length_map,List.length_range]
    simp only [go_sem,Nat.reduceLT,Nat.reduceAdd,Nat.reduceSub,Nat.reduceBEq,Nat.reduceLeDiff,↓reduceIte]
    rw [hlast]
    refine ⟨fun h2=>⟨h2,?_,r+1,h2,by omega,?_⟩,fun h2=>⟨k+1,h,by omega,?_⟩⟩
    ·rw [List.length_append,List.length_append,hrl];omega
    ·rw [wrap_small (by omega) (by omega),setsR_succ,List.append_assoc _ (setsR p.2.last k r)];rfl
    ·rw [wrap_small (by omega) (by omega),sets_succ,show r=(p.2.last.mp.getD k []).length by omega,List.append_assoc];rfl
   ·rw [show k=p.2.last.mp.length by omega,show addsF p.2.last p.2.last.sz.length++setsF p.2.last p.2.last.mp.length=smallF p.2.last from rfl]
    have hnl:(newF p.1).length≤4000:=by simp only [newF,List.length_append,List.length_cons,List.length_nil];omega
    refine ⟨fun h0=>?_,fun h0=>⟨fun h40=>?_,fun h40=>?_⟩⟩
    ·refine call_wk (bs:=[.ptr p.1.cells]) (ret_impl_newJournal p.1 htk) rfl ⟨.inr ⟨5,_,rfl,rfl⟩,trivial⟩ (.inl rfl) ?_
     simp only [go_sem,Nat.reduceLT,Nat.reduceAdd,Nat.reduceSub,Nat.reduceBEq,Nat.reduceLeDiff,↓reduceIte]
     simp only [cmpD]
     rw [if_neg (by omega),if_pos (by omega)]
    ·simp only [cmpD]
     rw [if_pos (by omega)]
    ·refine call_wk (bs:=[.ptr p.1.cells]) (ret_impl_newJournal p.1 htk) rfl ⟨.inr ⟨5,_,rfl,rfl⟩,trivial⟩ (.inl rfl) ?_
     simp only [go_sem,Nat.reduceLT,Nat.reduceAdd,Nat.reduceSub,↓reduceIte]
     refine call_of (ret_impl_transaction (newF p.1) (smallF p.2.last) (by omega) (by omega)) rfl (.inl rfl) ?_
     simp only [go_sem,Nat.reduceLT,Nat.reduceAdd,Nat.reduceSub,Nat.reduceBEq,Nat.reduceLeDiff,↓reduceIte]
     simp only [cmpD]
     rw [if_neg (by omega),if_neg (by intro hz;rw [hz] at h0;revert h0;decide)]
end Go.D3
namespace Go.D3
open Go
theorem cmp_str (o:Option (Sch×Hs)):∃ s c,cmpD o=.tup [.str s,.int .i64 c]:=by
 cases o with
 | none=>exact ⟨_,_,rfl⟩
 | some p =>
  simp only [cmpD]
  split
  ·exact ⟨_,_,rfl⟩
  ·split<;>exact ⟨_,_,rfl⟩
theorem ret_laws_FnExactCompactJournal (t:List UInt8):Ret Go.Proofs.Tryz.prog 5 [.v (.str t)] (.bool true):=law_compact t fun ht=>by
 obtain ⟨s,c,h⟩:=cmp_str (resJ t)
 exact ⟨s,c,h▸ret_spec_CompactJournal t ht,h▸ret_impl_CompactJournal t ht⟩
end Go.D3
namespace Go.Proofs.YtgieggnpnepkfaaGreatDoor
open Go
namespace fnExactCompactJournal
theorem own:ownKnob Go.Proofs.Tryz.prog.godebug=none:=by kernel_rfl
theorem laid:laidOutB Go.Proofs.Tryz.prog=true:=by kernel_rfl
theorem chk:(D3.Ty.cons .str .nil).chkAll Go.Proofs.Tryz.prog Go.Proofs.Tryz.f5.params.toList=true:=by kernel_rfl
theorem res:Go.Proofs.Tryz.f5.resultTypes=#[4]:=by kernel_rfl
theorem tb:Go.Proofs.Tryz.prog.underlying 4=some .bool:=by kernel_rfl
theorem np:Go.Proofs.Tryz.f5.params.size=1:=by kernel_rfl
set_option maxRecDepth 100000 in
theorem lifted (hR:∀ t:List UInt8,D3.Ret Go.Proofs.Tryz.prog 5 [.v (.str t)] (.bool true)) (os:Os) (started:os.Started) (H:Type) (enc:TypeId×Value→H) (F:Stop.Interp) :
  ReturnsInHanded {} Go.Proofs.Tryz.checked os 5 .any ((OpenSpec.ofChange Rows.fnExactCompactJournalSpec).preRow enc Go.Proofs.Tryz.prog Go.Proofs.Tryz.f5 Rows.fnExactCompactJournalRow.domain false Rows.fnExactCompactJournalRow.laid) (((OpenSpec.ofChange Rows.fnExactCompactJournalSpec).at F).post enc Go.Proofs.Tryz.prog Go.Proofs.Tryz.f5 false true false false):=by
 refine returnsInHanded_of_row (C:=Go.Proofs.Tryz.checked) (s:=OpenSpec.ofChange Rows.fnExactCompactJournalSpec) own started (by kernel_rfl) Go.Proofs.Tryz.func5
  (ChangeSpec.witness_shaped (enc:=enc) (C:=Go.Proofs.Tryz.checked) (os:=os) (s:=Rows.fnExactCompactJournalSpec) (conds:=Rows.fnExactCompactJournalRow.domain) (X:=fun w _=>laidMetH Go.Proofs.Tryz.prog Rows.fnExactCompactJournalRow.laid w) false (World.laidAll Go.Proofs.Tryz.prog os Rows.fnExactCompactJournalRow.laid) #[.string ⟨#[]⟩] 8 (World.laidAll_os _ _ _)
    (World.shaped_of_ZipB (by kernel_rfl) (by kernel_rfl)) (by kernel_rfl) (by kernel_rfl) (by kernel_rfl)
    (by rw [MakeChecks.laidMetH_plain _ _ _ (by kernel_rfl)];exact laidMet_laidAll _ (by kernel_rfl) (by kernel_rfl))) ?_
 intro W base args ds gs before hval hW _ _ _ hL hS _
 obtain ⟨ms,hms⟩:=D3.errUnder
 obtain ⟨hG,x,hx,ix⟩:=D3.gok_of hL hS
 refine D3.law_contractV (ty:=.cons .str .nil) (s:=Rows.fnExactCompactJournalSpec) rfl D3.errName D3.errType hms hx ix res tb laid chk (fun ds e hd=>?_) (fun y=>?_) hG hval hW
 ·rw [np] at hd
  match ds,hd with
  | [d],_=>rfl
 ·exact hR y.1
theorem said (hR:∀ t:List UInt8,D3.Ret Go.Proofs.Tryz.prog 5 [.v (.str t)] (.bool true)):Rows.FnExactCompactJournalSaid :=
 OpenClaim.holds_of_cond 5 Go.Proofs.Tryz.f5 rfl rfl rfl rfl rfl rfl rfl ⟨rfl,rfl,rfl,rfl,rfl⟩ rfl rfl rfl rfl rfl (by kernel_rfl) Go.Proofs.Tryz.func5 (by kernel_rfl)
  (of_decide_eq_true (by kernel_rfl)) (by unfold Func.isWrapper;first | (rw [if_pos (by decide +kernel)];kernel_rfl) | (rw [if_neg (by decide +kernel)];exact ⟨rfl,rfl⟩))
  (fun os started H enc _ F=>by rw [OpenClaim.pre_eq_preRow];exact lifted hR os started H enc F)
theorem plain (f:FuncId) (fn:Func) (hf:Tryz.pinned.checked.prog.funcNamed Rows.fnExactCompactJournalRow.func=some f) (hfn:Tryz.pinned.checked.prog.funcs[f]?=some fn) :
  true=Tryz.pinned.checked.prog.looks []∧∀ (j:Nat) t,fn.params[j]?=some t→Tryz.pinned.checked.prog.wantsStandIn t=false:=by
 obtain rfl:f=5:=Option.some.inj ((show Go.Proofs.Tryz.prog.funcNamed Rows.fnExactCompactJournalRow.func=some 5 by kernel_rfl).symm.trans hf) |>.symm
 obtain rfl:fn=Go.Proofs.Tryz.f5:=(Option.some.inj (Go.Proofs.Tryz.func5.symm.trans hfn)).symm
 refine ⟨by kernel_rfl,fun j t ht=>?_⟩
 have hm:t∈Go.Proofs.Tryz.f5.params:=Array.mem_of_getElem? ht
 have hall:(Go.Proofs.Tryz.f5.params.toList.all fun u=>!Go.Proofs.Tryz.prog.wantsStandIn u)=true:=by kernel_rfl
 exact (show Go.Proofs.Tryz.prog.wantsStandIn t=false by simpa using List.all_eq_true.1 hall t (by simpa using hm))
theorem card (hR:∀ t:List UInt8,D3.Ret Go.Proofs.Tryz.prog 5 [.v (.str t)] (.bool true)):Rows.FnExactCompactJournalCardSaid :=
 Claim7.holds_tied_plain_at .later [] _ _ _ _ (said hR) (fun _ h=>by cases h) (by kernel_rfl) (fun _ h=>by cases h) fnExactCompactJournal_row_tie rfl ⟨rfl,rfl⟩ (by kernel_rfl) rfl plain (by kernel_rfl)
end fnExactCompactJournal
end Go.Proofs.YtgieggnpnepkfaaGreatDoor
namespace Go.Proofs.YtgieggnpnepkfaaGreatDoor
open Go
theorem fnExactCompactJournal_proved:Rows.FnExactCompactJournalCardSaid:=fnExactCompactJournal.card D3.ret_laws_FnExactCompactJournal
#print axioms fnExactCompactJournal_proved
end Go.Proofs.YtgieggnpnepkfaaGreatDoor
