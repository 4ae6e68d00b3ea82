/- 'FnExactCommitChanges': whatever the arguments,the program's CommitChanges answers as the reference does,leaves its arguments as they were,and shares no memory. The card: package-level variables hold at the start what the program's text lays. No further conditions. -/
import Derived.Test.YtgieggnpnepkfaaGreatDoorGB
import Derived.Test.YtgieggnpnepkfaaGreatDoorGF
import Derived.RegionTactic
import Derived.BigRegion
import Derived.Below
import Derived.Laws.Rows
import Derived.Test.YtgieggnpnepkfaaGreatDoorGG
import Derived.Test.YtgieggnpnepkfaaGreatDoorCards
import Derived.Test.YtgieggnpnepkfaaGreatDoorTie
import Derived.JoinedCond
import Derived.Deep.DeepHandedRow
import Derived.Lay
namespace Go.D3
open Go
set_option maxRecDepth 100000
set_option maxHeartbeats 4000000
theorem sb_ok {left:Int} {n:Nat} (h0 : 0≤left) (h1:left≤1048576) (h : 0≤sb left n):n≤1048576∧0≤sb left n∧sb left n≤1048576:=by
 unfold sb at h ⊢
 split at h
 ·rename_i hh;rw [if_pos hh];omega
 ·omega
def c_laws_FnExactCompactJournal:C := (.seq (.ops [] [⟨none,.asg 1 (.k (.bool false))⟩] []) (.seq (.opc [] [⟨none,.mv (.v 0)⟩,⟨none,.lenS (.t 0)⟩,⟨none,.bin .gtr (.t 1) (.i 1048576)⟩] [] (.t 2) (.seq (.ops [] [⟨none,.asg 1 (.k (.bool true))⟩] []) .ret) .skip) (.seq (.ops [] [⟨none,.mv (.v 0)⟩,⟨none,.call 17 [(.t 0)]⟩,⟨none,.mv (.t 1)⟩,⟨none,.ext 0 (.t 2)⟩,⟨none,.ext 1 (.t 2)⟩,⟨none,.asg 2 (.t 3)⟩,⟨none,.asg 3 (.t 4)⟩] []) (.seq (.ops [] [⟨none,.mv (.v 0)⟩,⟨none,.call 18 [(.t 0)]⟩,⟨none,.mv (.t 1)⟩,⟨none,.ext 0 (.t 2)⟩,⟨none,.ext 1 (.t 2)⟩,⟨none,.asg 4 (.t 3)⟩,⟨none,.asg 5 (.t 4)⟩] []) (.seq (.opc [] [⟨none,.mv (.v 4)⟩,⟨none,.mv (.v 2)⟩,⟨none,.bin .neq (.t 0) (.t 1)⟩,⟨none,.mv (.t 2)⟩,⟨some (3,false),.mv (.v 5)⟩,⟨some (3,false),.mv (.v 3)⟩,⟨some (3,false),.bin .neq (.t 4) (.t 5)⟩,⟨none,.pick (.t 3) (.k (.bool true)) (.t 6)⟩] [] (.t 7) (.seq (.ops [] [⟨none,.asg 1 (.k (.bool false))⟩] []) .ret) .skip) (.seq (.ops [] [⟨none,.asg 1 (.k (.bool true))⟩] []) .ret))))))
def tr_laws_FnExactCompactJournal:List Nat:=[0,2,3,4,5,6]
def rs_laws_FnExactCompactJournal:List RS:=[.t 1]
theorem ok_laws_FnExactCompactJournal:fnOk Go.Proofs.Tryz.prog Go.Proofs.Tryz.f5 tr_laws_FnExactCompactJournal c_laws_FnExactCompactJournal 1 rs_laws_FnExactCompactJournal=true:=by decide +kernel
theorem law_compact (t:List UInt8) (h:t.length≤1048576→∃ (s:List UInt8) (c:Int),
  Ret Go.Proofs.Tryz.prog 17 [.v (.str t)] (.tup [.str s,.int .i64 c])∧Ret Go.Proofs.Tryz.prog 18 [.v (.str t)] (.tup [.str s,.int .i64 c])) :
  Ret Go.Proofs.Tryz.prog 5 [.v (.str t)] (.bool true):=by
 refine ret_fn Go.Proofs.Tryz.func5 ok_laws_FnExactCompactJournal rfl (show 1<500 by decide) rfl ?_;unfold c_laws_FnExactCompactJournal tr_laws_FnExactCompactJournal rs_laws_FnExactCompactJournal;simp only [go_sem,Nat.reduceLT,Nat.reduceAdd,Nat.reduceSub,↓reduceIte]
 refine fun h0=>?_
 obtain ⟨s,c,hsp,him⟩:=h (by omega)
 refine call_of hsp rfl (.inl rfl) ?_
 simp only [go_sem,Nat.reduceLT,Nat.reduceAdd,Nat.reduceSub,↓reduceIte]
 refine call_of him rfl (.inl rfl) ?_
 simp only [go_sem,Nat.reduceLT,Nat.reduceAdd,Nat.reduceSub,↓reduceIte]
 simp
def c_laws_FnExactCommitChanges:C := (.seq (.ops [] [⟨none,.asg 2 (.k (.bool false))⟩] []) (.seq (.opc [] [⟨none,.mv (.v 0)⟩,⟨none,.lenS (.t 0)⟩,⟨none,.bin .gtr (.t 1) (.i 1048576)⟩] [] (.t 2) (.seq (.ops [] [⟨none,.asg 2 (.k (.bool true))⟩] []) .ret) .skip) (.seq (.ops [] [⟨none,.asg 3 (.i 1048576)⟩] []) (.seq (.ops [] [⟨none,.mv (.v 1)⟩,⟨none,.mv (.v 3)⟩,⟨none,.call 19 [(.t 0),(.t 1)]⟩,⟨none,.asg 3 (.t 2)⟩] []) (.seq (.opc [] [⟨none,.mv (.v 3)⟩,⟨none,.bin .lss (.t 0) (.i 0)⟩] [] (.t 1) (.seq (.ops [] [⟨none,.asg 2 (.k (.bool true))⟩] []) .ret) .skip) (.seq (.ops [] [⟨none,.mv (.v 0)⟩,⟨none,.mv (.v 1)⟩,⟨none,.call 21 [(.t 1)]⟩,⟨none,.call 20 [(.t 0),(.t 2)]⟩,⟨none,.mv (.t 3)⟩,⟨none,.ext 0 (.t 4)⟩,⟨none,.ext 1 (.t 4)⟩,⟨none,.asg 4 (.t 5)⟩,⟨none,.asg 5 (.t 6)⟩] []) (.seq (.ops [] [⟨none,.mv (.v 1)⟩,⟨none,.call 21 [(.t 0)]⟩,⟨none,.asg 6 (.t 1)⟩] []) (.seq (.ops [] [⟨none,.mv (.v 0)⟩,⟨none,.mv (.v 6)⟩,⟨none,.call 22 [(.t 0),(.t 1)]⟩,⟨none,.mv (.t 2)⟩,⟨none,.ext 0 (.t 3)⟩,⟨none,.ext 1 (.t 3)⟩,⟨none,.asg 7 (.t 4)⟩,⟨none,.asg 8 (.t 5)⟩] []) (.seq (.opc [] [⟨none,.mv (.v 7)⟩,⟨none,.mv (.v 4)⟩,⟨none,.bin .neq (.t 0) (.t 1)⟩,⟨none,.mv (.t 2)⟩,⟨some (3,false),.mv (.v 8)⟩,⟨some (3,false),.mv (.v 5)⟩,⟨some (3,false),.bin .neq (.t 4) (.t 5)⟩,⟨none,.pick (.t 3) (.k (.bool true)) (.t 6)⟩] [] (.t 7) (.seq (.ops [] [⟨none,.asg 2 (.k (.bool false))⟩] []) .ret) .skip) (.seq (.opc [] [⟨none,.mv (.v 6)⟩,⟨none,.mv (.v 1)⟩,⟨none,.call 21 [(.t 1)]⟩,⟨none,.call 23 [(.t 0),(.t 2)]⟩,⟨none,.not (.t 3)⟩] [] (.t 4) (.seq (.ops [] [⟨none,.asg 2 (.k (.bool false))⟩] []) .ret) .skip) (.seq (.ops [] [⟨none,.asg 2 (.k (.bool true))⟩] []) .ret)))))))))))
def tr_laws_FnExactCommitChanges:List Nat:=[0,1,4,5,6,7,8,9,10]
def rs_laws_FnExactCommitChanges:List RS:=[.t 2]
theorem ok_laws_FnExactCommitChanges:fnOk Go.Proofs.Tryz.prog Go.Proofs.Tryz.f6 tr_laws_FnExactCommitChanges c_laws_FnExactCommitChanges 2 rs_laws_FnExactCommitChanges=true:=by decide +kernel
theorem law_commit (t:List UInt8) (l:List Chg) (h:t.length≤1048576→l.length≤1048576→∃ (s:List UInt8) (c:Int),
  Ret Go.Proofs.Tryz.prog 20 [.v (.str t),.v (lst Chg.d Chg.zero l)] (.tup [.str s,.int .i64 c])∧Ret Go.Proofs.Tryz.prog 22 [.v (.str t),.v (lst Chg.d Chg.zero l)] (.tup [.str s,.int .i64 c])) :
  Ret Go.Proofs.Tryz.prog 6 [.v (.str t),.v (lst Chg.d Chg.zero l)] (.bool true):=by
 refine ret_fn Go.Proofs.Tryz.func6 ok_laws_FnExactCommitChanges rfl (show 2<500 by decide) rfl ?_;unfold c_laws_FnExactCommitChanges tr_laws_FnExactCommitChanges rs_laws_FnExactCommitChanges;simp only [go_sem,Nat.reduceLT,Nat.reduceAdd,Nat.reduceSub,↓reduceIte]
 refine fun h0=>?_
 refine call_of (ret_laws_szChangeS l _ (by decide) (by decide)) rfl (.inl rfl) ?_
 simp only [go_sem,Nat.reduceLT,Nat.reduceAdd,Nat.reduceSub,↓reduceIte]
 refine fun h1=>?_
 obtain ⟨hs,hl1,hl2⟩:=sb_ok (left:=1048576) (n:=l.length) (by decide) (by decide) (by omega)
 obtain ⟨s,c,hsp,him⟩:=h (by omega) hs
 refine call_of (ret_laws_toChangeS l hs) rfl (.inl (nv_lst nv_Chg _)) ?_
 simp only [go_sem,Nat.reduceLT,Nat.reduceAdd,Nat.reduceSub,↓reduceIte]
 refine call_of hsp rfl (.inl rfl) ?_
 simp only [go_sem,Nat.reduceLT,Nat.reduceAdd,Nat.reduceSub,↓reduceIte]
 refine call_of (ret_laws_toChangeS l hs) rfl (.inl (nv_lst nv_Chg _)) ?_
 simp only [go_sem,Nat.reduceLT,Nat.reduceAdd,Nat.reduceSub,↓reduceIte]
 refine call_of him rfl (.inl rfl) ?_
 simp only [go_sem,Nat.reduceLT,Nat.reduceAdd,Nat.reduceSub,Nat.reduceBEq,Nat.reduceLeDiff,↓reduceIte]
 refine ⟨fun hh=>by simp at hh,fun _=>?_⟩
 refine call_of (ret_laws_toChangeS l hs) rfl (.inl (nv_lst nv_Chg _)) ?_
 simp only [go_sem,Nat.reduceLT,Nat.reduceAdd,Nat.reduceSub,↓reduceIte]
 refine call_of (ret_laws_eqChangeS l) rfl (.inl rfl) ?_
 simp only [go_sem,Nat.reduceLT,Nat.reduceAdd,Nat.reduceSub,Nat.reduceLeDiff,↓reduceIte]
end Go.D3
namespace Go.D3
open Go Go.RowKit
set_option maxRecDepth 100000
set_option maxHeartbeats 4000000
theorem now_walk (b sb so n c:Nat) (p0 p1:Option Addr) (n0 c0 n1 c1:Nat) (w:World) (hb:b<w.heap.size) (hsb:sb<w.heap.size) (hn : 0<n) (hn2:n≤4294966000) (h5:w.cell? ⟨b,5,none⟩=some (.slice (some ⟨sb,so,none⟩) n c))
  (h0:w.cell? ⟨sb,so+(n-1)*2,none⟩=some (.slice p0 n0 c0)) (h1:w.cell? ⟨sb,so+(n-1)*2+1,none⟩=some (.slice p1 n1 c1)) :
  Calls Go.Proofs.Tryz.prog 29 #[.pointer (some ⟨b,0,none⟩)] w fun e w'=>e=.returned (.agg #[.slice p0 n0 c0,.slice p1 n1 c1])∧Below w.heap.size w w':=by
 have a5:∀ o,(w.alloc o).cell? ⟨b,5,none⟩=some (.slice (some ⟨sb,so,none⟩) n c):=fun o=>by rw [World.cell?_alloc_past _ _ _ hb];exact h5
 have a0:∀ o,(w.alloc o).cell? ⟨sb,so+(n-1)*2,none⟩=some (.slice p0 n0 c0):=fun o=>by rw [World.cell?_alloc_past _ _ _ hsb];exact h0
 have a1:∀ o,(w.alloc o).cell? ⟨sb,so+(n-1)*2+1,none⟩=some (.slice p1 n1 c1):=fun o=>by rw [World.cell?_alloc_past _ _ _ hsb];exact h1
 have s0:(w.alloc (.cells #[.slice none 0 0,.slice none 0 0] 61)).cell? ⟨w.heap.size,0,none⟩=some (.slice none 0 0):=by rw [World.cell?_alloc_at _ _ _ _ rfl];rfl
 have s1:(w.alloc (.cells #[.slice none 0 0,.slice none 0 0] 61)).cell? ⟨w.heap.size,1,none⟩=some (.slice none 0 0):=by rw [World.cell?_alloc_at _ _ _ _ rfl];rfl
 have f0:(w.alloc (.cells #[.slice none 0 0,.slice none 0 0] 61)).frozen? ⟨w.heap.size,0,none⟩=false:=by rw [World.frozen?_alloc_at _ _ _ _ rfl]
 have f1:(w.alloc (.cells #[.slice none 0 0,.slice none 0 0] 61)).frozen? ⟨w.heap.size,1,none⟩=false:=by rw [World.frozen?_alloc_at _ _ _ _ rfl]
 go_enter Go.Proofs.Tryz.func29,Go.Proofs.Tryz.ntmps29
 go_wp2
 go_region
 go_wp2
 have hr:((w.alloc (.cells #[.slice p0 n0 c0,.slice p1 n1 c1] 61)).drew).heap[w.heap.size]?=some (.cells #[.slice p0 n0 c0,.slice p1 n1 c1] 61 (0,0)):=by
  show (w.heap.push _)[w.heap.size]?=_
  rw [Array.getElem?_push,if_pos rfl]
 refine bodyPost_ret (results_cell_row (fn:=Go.Proofs.Tryz.f29) (p:=2) (ty:=61) rfl _ _ w.heap.size 61 #[.slice p0 n0 c0,.slice p1 n1 c1] (0,0) _ rfl hr Go.Proofs.Tryz.underlying61 rfl (by kernel_rfl)) rfl ⟨rfl,rfl,rfl,rfl,?_,fun j hj=>?_⟩
 ·show w.heap.size≤(w.heap.push _).size
  rw [Array.size_push];omega
 ·show (w.heap.push _)[j]?=_
  rw [Array.getElem?_push,if_neg (by omega)]
theorem own_ptr {w:World} {A:Nat→Prop} {v:Value} {l:List D} {F:Nat→Prop} (h:Own w A v (.ptr l) F):∃ (b:Nat) (cs:Array Value) (e:TypeId) (Fs:Nat→Nat→Prop),v=.pointer (some ⟨b,0,none⟩)∧w.heap[b]?=some (.cells cs e (0,0))∧cs.size=l.length∧(∀ j x,l[j]?=some x→Own w A (cs.getD j undef) x (Fs j))∧F b:=by
 cases h with
 | ptr Fs hb hs hr hF _ _=>exact ⟨_,_,_,Fs,rfl,hb,hs,hr,hF⟩
theorem own_sliceN {w:World} {A:Nat→Prop} {v:Value} {z:D} {L:List D} {F:Nat→Prop} (h:Own w A v (.slice z L) F) (hL:L≠[]):∃ (b off cap sz:Nat) (cs:Array Value) (e:TypeId) (fz:Nat×Nat) (Fs:Nat→Nat→Prop),v=.slice (some ⟨b,off,none⟩) L.length cap∧w.heap[b]?=some (.cells cs e fz)∧off+cap*sz≤cs.size∧L.length≤cap∧z.cells.length=sz∧∀ j x,cellAt L sz j=some x→Own w A (cs.getD (off+j) undef) x (Fs j):=by
 cases h with
 | nil=>exact absurd rfl hL
 | slice Fs hb hroom hc hm hz hzz hsz hr hF hfs hdis=>exact ⟨_,_,_,_,_,_,_,Fs,rfl,hb,hroom.1,hc,hzz,hr⟩
theorem own_sl {w:World} {A:Nat→Prop} {v:Value} {z:D} {L:List D} {F:Nat→Prop} (h:Own w A v (.slice z L) F):∃ p n c,v=.slice p n c:=by
 cases h with
 | nil=>exact ⟨_,_,_,rfl⟩
 | slice Fs hb hroom hc hm hz hzz hsz hr hF hfs hdis=>exact ⟨_,_,_,rfl⟩
theorem ret_nowK (s:Sch) (dt:List Dat) (tx:List (List Chg)) (g:Nat) (h : 0<dt.length) (hl:dt.length≤4294966000):RetK Go.Proofs.Tryz.prog 29 [.adr 0 [(0,0)]] [.o (.ptr (hiC s dt tx g))] (.agg [.sub 0 [(0,5),(dt.length-1,0)],.sub 0 [(0,5),(dt.length-1,1)]]):=by
 refine ⟨by decide +kernel,?_⟩
 intro w A vs gv Fs hG hA hvs hpre hgpre hgemp hFd hFs
 obtain ⟨b,cs,e,Fs1,hg0,hbk,hsz,hcs,hFb⟩:=own_ptr (show Own w A (gv 0) (.ptr (hiC s dt tx g)) (Fs 0) from hgpre 0)
 have hsz:cs.size=8:=hsz
 have hbl:b<w.heap.size:=(hFs 0 b hFb).1
 have hv0:vs=#[.pointer (some ⟨b,0,none⟩)]:=by
  obtain ⟨q1,a,q2,q3⟩:=pl_adr (hpre 0 _ rfl)
  have hv0:vs.getD 0 undef=.pointer (some ⟨b,0,none⟩):=by
   have:adrAt w (gv 0) (nth [D.o (.ptr (hiC s dt tx g))] 0) [(0,0)]=some ⟨b,0,none⟩:=by
    rw [hg0];rfl
   rw [this] at q2
   injection q2 with q2
   rw [q3,← q2]
  match vs,hvs with
  | ⟨[x]⟩,_=>rw [← hv0];rfl
 have hc5:w.cell? ⟨b,5,none⟩=some (cs.getD 5 undef):=cell_own hbk (by omega)
 have hne:dt.map Dat.d≠[]:=by
  intro hh
  have:=congrArg List.length hh
  rw [List.length_map] at this
  exact absurd this (by show dt.length≠0;omega)
 obtain ⟨sb,so,cap,sz,cs2,e2,fz,Fs2,hs5,hsbk,hroom,hcap,hz,hel⟩:=own_sliceN (show Own w A (cs.getD 5 undef) (.slice (Dat.d Dat.zero) (dt.map Dat.d)) (Fs1 5) from hcs 5 _ rfl) hne
 obtain rfl:sz=2:=hz.symm
 rw [List.length_map] at hs5 hcap
 have hsbl:sb<w.heap.size:=(Array.getElem?_eq_some_iff.1 hsbk).1
 have hlt:dt.length-1<dt.length:=by omega
 have hge:(dt.map Dat.d)[dt.length-1]?=some (Dat.d dt[dt.length-1]):=by rw [List.getElem?_map,List.getElem?_eq_getElem hlt];rfl
 have hel0:=hel ((dt.length-1)*2) (ints dt[dt.length-1].sz) (by
  unfold cellAt
  rw [show (dt.length-1)*2 / 2=dt.length-1 by omega,show (dt.length-1)*2 % 2=0 by omega,hge];rfl)
 have hel1:=hel ((dt.length-1)*2+1) (intss dt[dt.length-1].mp) (by
  unfold cellAt
  rw [show ((dt.length-1)*2+1) / 2=dt.length-1 by omega,show ((dt.length-1)*2+1) % 2=1 by omega,hge];rfl)
 obtain ⟨p0,n0,c0,e0⟩:=own_sl hel0
 obtain ⟨p1,n1,c1,e1⟩:=own_sl hel1
 have k0:w.cell? ⟨sb,so+(dt.length-1)*2,none⟩=some (.slice p0 n0 c0):=by rw [← e0];exact cell_own hsbk (by omega)
 have k1:w.cell? ⟨sb,so+(dt.length-1)*2+1,none⟩=some (.slice p1 n1 c1):=by rw [← e1];exact cell_own hsbk (by omega)
 rw [hs5] at hc5
 rw [hv0]
 refine (now_walk b sb so dt.length cap p0 p1 n0 c0 n1 c1 w hbl hsbl h hl hc5 k0 k1).mono ?_
 rintro e w' ⟨rfl,hb⟩
 have ref:∀ (off:Nat) (p:Option Addr) (n c:Nat),off<2→w.cell? ⟨sb,so+(dt.length-1)*2+off,none⟩=some (.slice p n c)→RefOk w (nth [D.o (.ptr (hiC s dt tx g))]) gv (.slice p n c) (.sub 0 [(0,5),(dt.length-1,off)]):=fun off p n c ho hc=>by
  refine ⟨⟨⟨⟨rfl,by show 5<8;decide⟩,⟨⟨by show dt.length-1<(dt.map Dat.d).length;rw [List.length_map];exact hlt,by show off<2;exact ho⟩,trivial⟩⟩,fun hh=>by cases hh⟩,?_,.inl ⟨p,n,c,rfl⟩⟩
  rw [hg0]
  show (kidV _ _ _ 0 5).bind _=_
  show ((World.cell? w ⟨b,0+5,none⟩).bind _)=_
  rw [Nat.zero_add,hc5]
  show ((World.cell? w ⟨sb,so+((dt.length-1)*2+off),none⟩).bind some)=_
  rw [← Nat.add_assoc,hc];rfl
 refine ⟨_,rfl,hb.size,fun c hc=>hb.block c hc,?_,hb.os,hb.tape,hb.output⟩
 refine .agg rfl fun j x hj=>?_
 match j with
 | 0=>cases hj;exact .ref (ref 0 _ _ _ (by decide) k0)
 | 1=>cases hj;exact .ref (ref 1 _ _ _ (by decide) k1)
 | _+2=>cases hj
end Go.D3
namespace Go.D3
open Go
set_option maxRecDepth 100000
set_option maxHeartbeats 4000000
theorem ret_allV (s:Sch) (d:Dat) (l:List Chg) (h:s.ok=true) (hd:DOk s d) (hl:l.length≤4294966000):RetG Go.Proofs.Tryz.prog 37 [Sch.d s,Dat.d d,lst Chg.d Chg.zero l] [] (allE s l (Dat.all s d l)) []:=by
 have hs:=sok_of (ok_len h).1
 refine ret_fnG .tree Go.Proofs.Tryz.func37 rfl ok_spec_l39All rfl ⟨by simp only [List.length_cons,List.length_nil];decide,by simp only [List.length_nil];decide⟩ rfl ?_;unfold c_spec_l39All tr_spec_l39All rs_spec_l39All;simp only [go_sem,Nat.reduceLT,Nat.reduceAdd,Nat.reduceSub,↓reduceIte]
 refine loop_set [8,9] (fun (p:Nat×Dat)=>[(6,.box [ints p.2.sz,intss p.2.mp]),(7,.int .i64 p.1)]) (fun p=>p.1≤l.length∧Dat.all s p.2 (l.drop p.1)=Dat.all s d l∧DOk s p.2) (fun p=>l.length-p.1) (0,d) (by simp only [go_sem,Nat.reduceLT,↓reduceIte];rfl) ⟨Nat.zero_le _,rfl,hd⟩ rfl ?_
 rintro ⟨i,e⟩ ⟨hi,ha,he⟩
 simp only at hi ha he
 simp only [go_sem,Nat.reduceLT,Nat.reduceAdd,Nat.reduceSub,Nat.reduceLeDiff,↓reduceIte]
 have hV:=Ret.view (xs:=[Sch.d s,Dat.d e,Chg.d (l.getD i Chg.zero)]) (by decide +kernel) (fun x hx=>by simp at hx;rcases hx with rfl | rfl | rfl<;>simp only [Sch.d,Sch.cells,Dat.d,Dat.cells,Chg.d,Chg.cells,D.refs,refsL,lst_refs,and_self]) (by split<;>rfl) (ret_spec_l39Apply s e (l.getD i Chg.zero) hs he)
 refine ⟨fun h2=>?_,fun h2=>?_⟩
 ·rw [all_drop h2] at ha
  have hstep:=fun hc=>he.app (c:=l.getD i Chg.zero) hs hc
  with_reducible (repeat' apply And.intro)
  all_goals (try exact h2)
  all_goals (
   refine g_call [] false hV (by exact ⟨by decide,rfl⟩) (by repeat (first | exact trivial | refine ⟨rfl,?_⟩)) (by repeat (first | exact trivial | refine ⟨.inl rfl,?_⟩ | refine ⟨.inr ⟨rfl,rfl⟩,?_⟩)) (by repeat (first | exact trivial | refine ⟨(fun h=>by cases h),?_⟩)) (fun h=>by cases h) ?_
   cases hc:e.can s (l.getD i Chg.zero) with
   | false =>
    rw [hc,if_neg (by simp)] at ha
    rw [← ha,if_neg (by simp)]
    simp only [allE,datW]
    simp only [go_sem,Nat.reduceLT,Nat.reduceAdd,Nat.reduceSub,Nat.reduceEqDiff,↓reduceIte]
    all_goals rfl
   | true =>
    rw [hc,if_pos rfl] at ha
    rw [if_pos rfl]
    have:=hstep hc
    generalize e.app s (l.getD i Chg.zero)=e' at ha this
    simp only [go_sem,Nat.reduceLT,Nat.reduceAdd,Nat.reduceSub,Nat.reduceEqDiff,↓reduceIte]
    exact ⟨(i+1,e'),⟨h2,ha,this⟩,by show l.length-(i+1)<l.length-i;omega,by rw [wrap_small (by omega) (by omega)];rfl⟩)
 rw [show i=l.length by omega,List.drop_length] at ha
 rw [← ha]
 have h40:decide ((l.length:Int)≤40)=decide (l.length≤40):=decide_eq_decide.2 (by omega)
 refine ⟨callg_of (fun _=>ret_spec_l39Whole s e h he) rfl (fun h=>h) (.inl rfl) ?_,callg_of (fun _=>ret_spec_l39Whole s e h he) rfl (fun h=>h) (.inl rfl) ?_⟩
 all_goals (
  simp only [go_sem,Nat.reduceLT,Nat.reduceAdd,Nat.reduceSub,↓reduceIte,allE,datW,Dat.all]
  rw [h40])
theorem sz_le' {s:Sch} {d:Dat} (hd:DOk s d) (i:Nat):d.sz.getD i 0≤16:=by
 by_cases h:i<d.sz.length
 ·exact (hd.szr i h).2
 ·rw [List.getD_eq_getElem?_getD,List.getElem?_eq_none (by omega)];show (0:Int)≤16;omega
theorem can_ok {s:Sch} {d:Dat} {c:Chg} (hs:SOk s) (hd:DOk s d) (h:d.can s c=true):COk c:=by
 have h1:=hs.n8
 have h2:=hs.f8
 unfold Dat.can at h
 rw [Bool.and_eq_true] at h
 by_cases hk:c.kd=1
 ·rw [if_pos hk] at h
  simp only [Bool.and_eq_true,inR,decide_eq_true_eq] at h
  exact ⟨by omega,fun hn=>absurd hk hn⟩
 ·rw [if_neg hk] at h
  simp only [Bool.and_eq_true,inR,decide_eq_true_eq] at h
  have z1:=sz_le' hd (s.fr.getD c.fi.toNat 0).toNat
  have z2:=sz_le' hd (s.to.getD c.fi.toNat 0).toNat
  exact ⟨by omega,fun _=>by omega⟩
theorem all_cok {s:Sch} (hs:SOk s):∀ {l:List Chg} {d e:Dat},DOk s d→Dat.all s d l=some e→∀ c∈l,COk c
 | [],_,_,_,_,c,hc=>by cases hc
 | x::l,d,e,h,ha,c,hc=>by
  rw [Dat.all] at ha
  split at ha
  ·rename_i hcan
   rcases List.mem_cons.1 hc with rfl | hc
   ·exact can_ok hs h hcan
   ·exact all_cok hs (h.app hs hcan) ha c hc
  ·cases ha
def comD (t:List UInt8) (l:List Chg):Option (Sch×Hs)→D
 | some p=>if 40<l.length then .tup [.str [],.int .i64 2] else match goodO p.1 p.2.last l with
  | none=>.tup [.str [],.int .i64 5]
  | some _=>if 6000<(putF (t.take p.2.gd) l).length then .tup [.str [],.int .i64 3] else .tup [.str (putF (t.take p.2.gd) l),.int .i64 0]
 | none=>.tup [.str [],.int .i64 6]
def c_spec_CommitChanges:C := (.seq (.ops [] [⟨none,.asg 2 (.k (.str []))⟩,⟨none,.asg 3 (.i 0)⟩] []) (.seq (.ops [4] [⟨none,.mv (.v 0)⟩,⟨none,.dyn (.k (.fn 24 [])) [(.t 0),(.i 1000000)]⟩,⟨none,.mv (.t 1)⟩,⟨none,.ext 0 (.t 2)⟩,⟨none,.ext 1 (.t 2)⟩,⟨none,.alc [.int .i64 0,.nils (.int .i64 0),.nils (.int .i64 0),.nils (.agg [.int .i64 0,ints []]),.nils (.agg [.int .i64 0,ints []]),.nils (.agg [ints [],intss []]),.nils (.slice (.agg [.int .i64 0,.int .i64 0,.int .i64 0,.int .i64 0]) []),.int .i64 0]⟩,⟨none,.stn 8 (.t 5) (.t 3)⟩,⟨none,.asg 5 (.t 4)⟩] [(4,5)]) (.seq (.opc [] [⟨none,.mv (.v 5)⟩,⟨none,.not (.t 0)⟩] [] (.t 1) (.seq (.ops [] [⟨none,.asg 2 (.k (.str []))⟩,⟨none,.asg 3 (.i 6)⟩] []) .ret) .skip) (.seq (.opc [] [⟨none,.mv (.v 1)⟩,⟨none,.len (.t 0)⟩,⟨none,.bin .gtr (.t 1) (.i 40)⟩] [] (.t 2) (.seq (.ops [] [⟨none,.asg 2 (.k (.str []))⟩,⟨none,.asg 3 (.i 2)⟩] []) .ret) .skip) (.seq (.alt [] (.two 1 3 [0,2,3,1,4,5,6,7,8,9,10,11] (.two 3 9 [0,1,2,4,9,3,5,6,7,8,10,11] (.two 5 9 [0,1,2,3,4,9,5,6,7,8,10,11] (.two 8 10 [0,1,2,3,4,5,6,7,9,10,8,11] (.leaf [⟨none,.fA 0 (.v 4)⟩,⟨none,.mv (.v 1)⟩,⟨none,.lda 5 (.t 0)⟩,⟨none,.lda 8 (.v 4)⟩,⟨none,.dyn (.k (.fn 25 [])) [(.t 3)]⟩,⟨none,.dyn (.k (.fn 37 [])) [(.t 2),(.t 4),(.t 1)]⟩,⟨none,.mv (.t 5)⟩,⟨none,.ext 0 (.t 6)⟩,⟨none,.ext 1 (.t 6)⟩,⟨none,.alc [.nils (.int .i64 0),.nils (ints [])]⟩,⟨none,.stn 2 (.t 9) (.t 7)⟩,⟨none,.asg 6 (.t 8)⟩] []) (.leaf [⟨none,.fA 0 (.v 4)⟩,⟨none,.mv (.v 1)⟩,⟨none,.lda 5 (.t 0)⟩,⟨none,.lda 8 (.v 4)⟩,⟨none,.dyn (.k (.fn 25 [])) [(.t 3)]⟩,⟨none,.dyn (.k (.fn 37 [])) [(.t 2),(.t 4),(.t 1)]⟩,⟨none,.mv (.t 5)⟩,⟨none,.ext 0 (.t 6)⟩,⟨none,.alc [.nils (.int .i64 0),.nils (ints [])]⟩,⟨none,.stn 2 (.t 8) (.t 7)⟩,⟨none,.ext 1 (.t 6)⟩,⟨none,.asg 6 (.t 10)⟩] [])) (.two 9 10 [0,1,2,3,4,5,6,7,8,10,9,11] (.leaf [⟨none,.fA 0 (.v 4)⟩,⟨none,.mv (.v 1)⟩,⟨none,.lda 5 (.t 0)⟩,⟨none,.lda 8 (.v 4)⟩,⟨none,.dyn (.k (.fn 25 [])) [(.t 3)]⟩,⟨none,.alc [.nils (.int .i64 0),.nils (ints [])]⟩,⟨none,.dyn (.k (.fn 37 [])) [(.t 2),(.t 4),(.t 1)]⟩,⟨none,.mv (.t 6)⟩,⟨none,.ext 0 (.t 7)⟩,⟨none,.ext 1 (.t 7)⟩,⟨none,.stn 2 (.t 5) (.t 8)⟩,⟨none,.asg 6 (.t 9)⟩] []) (.leaf [⟨none,.fA 0 (.v 4)⟩,⟨none,.mv (.v 1)⟩,⟨none,.lda 5 (.t 0)⟩,⟨none,.lda 8 (.v 4)⟩,⟨none,.dyn (.k (.fn 25 [])) [(.t 3)]⟩,⟨none,.alc [.nils (.int .i64 0),.nils (ints [])]⟩,⟨none,.dyn (.k (.fn 37 [])) [(.t 2),(.t 4),(.t 1)]⟩,⟨none,.mv (.t 6)⟩,⟨none,.ext 0 (.t 7)⟩,⟨none,.stn 2 (.t 5) (.t 8)⟩,⟨none,.ext 1 (.t 7)⟩,⟨none,.asg 6 (.t 10)⟩] []))) (.two 9 10 [0,1,2,3,4,5,6,7,8,10,9,11] (.leaf [⟨none,.fA 0 (.v 4)⟩,⟨none,.mv (.v 1)⟩,⟨none,.lda 5 (.t 0)⟩,⟨none,.lda 8 (.v 4)⟩,⟨none,.alc [.nils (.int .i64 0),.nils (ints [])]⟩,⟨none,.dyn (.k (.fn 25 [])) [(.t 3)]⟩,⟨none,.dyn (.k (.fn 37 [])) [(.t 2),(.t 5),(.t 1)]⟩,⟨none,.mv (.t 6)⟩,⟨none,.ext 0 (.t 7)⟩,⟨none,.ext 1 (.t 7)⟩,⟨none,.stn 2 (.t 4) (.t 8)⟩,⟨none,.asg 6 (.t 9)⟩] []) (.leaf [⟨none,.fA 0 (.v 4)⟩,⟨none,.mv (.v 1)⟩,⟨none,.lda 5 (.t 0)⟩,⟨none,.lda 8 (.v 4)⟩,⟨none,.alc [.nils (.int .i64 0),.nils (ints [])]⟩,⟨none,.dyn (.k (.fn 25 [])) [(.t 3)]⟩,⟨none,.dyn (.k (.fn 37 [])) [(.t 2),(.t 5),(.t 1)]⟩,⟨none,.mv (.t 6)⟩,⟨none,.ext 0 (.t 7)⟩,⟨none,.stn 2 (.t 4) (.t 8)⟩,⟨none,.ext 1 (.t 7)⟩,⟨none,.asg 6 (.t 10)⟩] []))) (.two 2 9 [0,1,4,9,2,3,5,6,7,8,10,11] (.two 5 9 [0,1,2,3,4,9,5,6,7,8,10,11] (.two 8 10 [0,1,2,3,4,5,6,7,9,10,8,11] (.leaf [⟨none,.fA 0 (.v 4)⟩,⟨none,.mv (.v 1)⟩,⟨none,.lda 8 (.v 4)⟩,⟨none,.dyn (.k (.fn 25 [])) [(.t 2)]⟩,⟨none,.lda 5 (.t 0)⟩,⟨none,.dyn (.k (.fn 37 [])) [(.t 4),(.t 3),(.t 1)]⟩,⟨none,.mv (.t 5)⟩,⟨none,.ext 0 (.t 6)⟩,⟨none,.ext 1 (.t 6)⟩,⟨none,.alc [.nils (.int .i64 0),.nils (ints [])]⟩,⟨none,.stn 2 (.t 9) (.t 7)⟩,⟨none,.asg 6 (.t 8)⟩] []) (.leaf [⟨none,.fA 0 (.v 4)⟩,⟨none,.mv (.v 1)⟩,⟨none,.lda 8 (.v 4)⟩,⟨none,.dyn (.k (.fn 25 [])) [(.t 2)]⟩,⟨none,.lda 5 (.t 0)⟩,⟨none,.dyn (.k (.fn 37 [])) [(.t 4),(.t 3),(.t 1)]⟩,⟨none,.mv (.t 5)⟩,⟨none,.ext 0 (.t 6)⟩,⟨none,.alc [.nils (.int .i64 0),.nils (ints [])]⟩,⟨none,.stn 2 (.t 8) (.t 7)⟩,⟨none,.ext 1 (.t 6)⟩,⟨none,.asg 6 (.t 10)⟩] [])) (.two 9 10 [0,1,2,3,4,5,6,7,8,10,9,11] (.leaf [⟨none,.fA 0 (.v 4)⟩,⟨none,.mv (.v 1)⟩,⟨none,.lda 8 (.v 4)⟩,⟨none,.dyn (.k (.fn 25 [])) [(.t 2)]⟩,⟨none,.lda 5 (.t 0)⟩,⟨none,.alc [.nils (.int .i64 0),.nils (ints [])]⟩,⟨none,.dyn (.k (.fn 37 [])) [(.t 4),(.t 3),(.t 1)]⟩,⟨none,.mv (.t 6)⟩,⟨none,.ext 0 (.t 7)⟩,⟨none,.ext 1 (.t 7)⟩,⟨none,.stn 2 (.t 5) (.t 8)⟩,⟨none,.asg 6 (.t 9)⟩] []) (.leaf [⟨none,.fA 0 (.v 4)⟩,⟨none,.mv (.v 1)⟩,⟨none,.lda 8 (.v 4)⟩,⟨none,.dyn (.k (.fn 25 [])) [(.t 2)]⟩,⟨none,.lda 5 (.t 0)⟩,⟨none,.alc [.nils (.int .i64 0),.nils (ints [])]⟩,⟨none,.dyn (.k (.fn 37 [])) [(.t 4),(.t 3),(.t 1)]⟩,⟨none,.mv (.t 6)⟩,⟨none,.ext 0 (.t 7)⟩,⟨none,.stn 2 (.t 5) (.t 8)⟩,⟨none,.ext 1 (.t 7)⟩,⟨none,.asg 6 (.t 10)⟩] []))) (.two 9 10 [0,1,2,3,4,5,6,7,8,10,9,11] (.leaf [⟨none,.fA 0 (.v 4)⟩,⟨none,.mv (.v 1)⟩,⟨none,.lda 8 (.v 4)⟩,⟨none,.alc [.nils (.int .i64 0),.nils (ints [])]⟩,⟨none,.dyn (.k (.fn 25 [])) [(.t 2)]⟩,⟨none,.lda 5 (.t 0)⟩,⟨none,.dyn (.k (.fn 37 [])) [(.t 5),(.t 4),(.t 1)]⟩,⟨none,.mv (.t 6)⟩,⟨none,.ext 0 (.t 7)⟩,⟨none,.ext 1 (.t 7)⟩,⟨none,.stn 2 (.t 3) (.t 8)⟩,⟨none,.asg 6 (.t 9)⟩] []) (.leaf [⟨none,.fA 0 (.v 4)⟩,⟨none,.mv (.v 1)⟩,⟨none,.lda 8 (.v 4)⟩,⟨none,.alc [.nils (.int .i64 0),.nils (ints [])]⟩,⟨none,.dyn (.k (.fn 25 [])) [(.t 2)]⟩,⟨none,.lda 5 (.t 0)⟩,⟨none,.dyn (.k (.fn 37 [])) [(.t 5),(.t 4),(.t 1)]⟩,⟨none,.mv (.t 6)⟩,⟨none,.ext 0 (.t 7)⟩,⟨none,.stn 2 (.t 3) (.t 8)⟩,⟨none,.ext 1 (.t 7)⟩,⟨none,.asg 6 (.t 10)⟩] []))))) (.seq (.opc [] [⟨none,.mv (.v 6)⟩,⟨none,.not (.t 0)⟩] [] (.t 1) (.seq (.ops [] [⟨none,.asg 2 (.k (.str []))⟩,⟨none,.asg 3 (.i 5)⟩] []) .ret) .skip) (.seq (.ops [] [⟨none,.mv (.v 0)⟩,⟨none,.fA 7 (.v 4)⟩,⟨none,.ld (.t 1)⟩,⟨none,.slS (.t 0) none (some (.t 2))⟩,⟨none,.mv (.v 1)⟩,⟨none,.call 34 [(.t 3),(.t 4)]⟩,⟨none,.asg 7 (.t 5)⟩] []) (.seq (.opc [] [⟨none,.mv (.v 7)⟩,⟨none,.lenS (.t 0)⟩,⟨none,.bin .gtr (.t 1) (.i 6000)⟩] [] (.t 2) (.seq (.ops [] [⟨none,.asg 2 (.k (.str []))⟩,⟨none,.asg 3 (.i 3)⟩] []) .ret) .skip) (.seq (.ops [] [⟨none,.mv (.v 7)⟩,⟨none,.asg 2 (.t 0)⟩,⟨none,.asg 3 (.i 0)⟩] []) .ret)))))))))
def tr_spec_CommitChanges:List Nat:=[0,1,4,5,6,7,9,10]
def rs_spec_CommitChanges:List RS:=[.t 2,.t 3]
theorem ok_spec_CommitChanges:fnOk Go.Proofs.Tryz.prog Go.Proofs.Tryz.f20 tr_spec_CommitChanges c_spec_CommitChanges 2 rs_spec_CommitChanges=true:=by decide +kernel
theorem ret_spec_CommitChanges (t:List UInt8) (l:List Chg) (ht:t.length≤1048576):Ret Go.Proofs.Tryz.prog 20 [.v (.str t),.v (lst Chg.d Chg.zero l)] (comD t l (resJ t)):=by
 refine ret_fn Go.Proofs.Tryz.func20 ok_spec_CommitChanges rfl (show 2<500 by decide) rfl ?_;unfold c_spec_CommitChanges tr_spec_CommitChanges rs_spec_CommitChanges;simp only [go_sem,Nat.reduceLT,Nat.reduceAdd,Nat.reduceSub,↓reduceIte]
 refine g_call [] false (ret_opnV t (by omega)) (by exact ⟨by decide,rfl⟩) (by repeat (first | exact trivial | refine ⟨rfl,?_⟩)) (by repeat (first | exact trivial | refine ⟨.inl rfl,?_⟩ | refine ⟨.inr ⟨rfl,rfl⟩,?_⟩)) (by repeat (first | exact trivial | refine ⟨(fun h=>by cases h),?_⟩)) (fun h=>by cases h) ?_
 cases hr:resJ t with
 | none =>
  simp only [opnV]
  simp only [go_sem,Nat.reduceLT,Nat.reduceAdd,Nat.reduceSub,↓reduceIte]
  rfl
 | some p =>
  obtain ⟨hok,hH⟩:=resJ_ok hr
  have hs:=sok_of (ok_len hok).1
  have hdl:=hH.dl
  have h6:=hH.t6
  have hgl:=hH.gl
  simp only [opnV,Hs.pl]
  simp only [go_sem,Nat.reduceLT,Nat.reduceAdd,Nat.reduceSub,↓reduceIte]
  refine ⟨fun h40=>?_,fun h40=>?_⟩
  ·simp only [comD]
   rw [if_pos (by omega)]
  ·have hlast:=ret_spec_l39Last (Hst.of p.1 p.2) (by show 0<p.2.dt.length;omega) (by show p.2.dt.length≤_;omega)
   rw [last_of] at hlast
   have hall:=ret_allV p.1 p.2.last l hok hH.last (by omega)
   have hcok:=fun e he=>all_cok hs (l:=l) (e:=e) hH.last he
   with_reducible (repeat' apply And.intro)
   all_goals (
    refine g_call [] false hlast (by exact ⟨by decide,rfl⟩) (by repeat (first | exact trivial | refine ⟨rfl,?_⟩)) (by repeat (first | exact trivial | refine ⟨.inl rfl,?_⟩ | refine ⟨.inr ⟨rfl,rfl⟩,?_⟩)) (by repeat (first | exact trivial | refine ⟨(fun h=>by cases h),?_⟩)) (fun h=>by cases h) ?_
    simp only [go_sem,Nat.reduceLT,Nat.reduceAdd,Nat.reduceSub,↓reduceIte]
    refine g_call [] false hall (by exact ⟨by decide,rfl⟩) (by repeat (first | exact trivial | refine ⟨rfl,?_⟩)) (by repeat (first | exact trivial | refine ⟨.inl rfl,?_⟩ | refine ⟨.inr ⟨rfl,rfl⟩,?_⟩)) (by repeat (first | exact trivial | refine ⟨(fun h=>by cases h),?_⟩)) (fun h=>by cases h) ?_
    cases hd:Dat.all p.1 p.2.last l with
    | none =>
     simp only [allE,datW]
     simp only [go_sem,Nat.reduceLT,Nat.reduceAdd,Nat.reduceSub,Nat.reduceEqDiff,Nat.reduceBEq,↓reduceIte]
     simp only [comD,goodO,hd]
     rw [if_neg (by omega)]
     rfl
    | some e =>
     simp only [allE]
     cases hgb:(decide (l.length≤40)&&e.wholeB p.1) with
     | false =>
      simp only [go_sem,Nat.reduceLT,Nat.reduceAdd,Nat.reduceSub,Nat.reduceBEq,↓reduceIte,datW]
      simp only [comD,goodO,hd,Option.bind_some,hgb]
      rw [if_neg (by omega)]
      rfl
     | true =>
      have hgo:goodO p.1 p.2.last l=some e:=by unfold goodO;rw [hd,Option.bind_some,hgb];rfl
      simp only [go_sem,Nat.reduceLT,Nat.reduceAdd,Nat.reduceSub,Nat.reduceBEq,↓reduceIte,datW]
      refine ⟨⟨Nat.zero_le _,hgl⟩,call_of (ret_spec_l39Put (t.take p.2.gd) l (by rw [List.length_take];omega) (by omega) (hcok e hd)) rfl (.inl rfl) ?_⟩
      simp only [go_sem,Nat.reduceLT,Nat.reduceAdd,Nat.reduceSub,Nat.reduceBEq,↓reduceIte]
      refine ⟨fun h6k=>?_,fun h6k=>?_⟩
      ·simp only [comD,hgo]
       rw [if_neg (by omega),if_pos (by omega)]
      ·simp only [comD,hgo]
       rw [if_neg (by omega),if_neg (by omega)])
end Go.D3
namespace Go.D3
open Go
set_option maxRecDepth 100000
set_option maxHeartbeats 4000000
def c_impl_CommitChanges:C := (.seq (.ops [] [⟨none,.asg 2 (.k (.str []))⟩,⟨none,.asg 3 (.i 0)⟩] []) (.seq (.ops [] [⟨none,.mv (.v 0)⟩,⟨none,.call 28 [(.t 0)]⟩,⟨none,.mv (.t 1)⟩,⟨none,.ext 0 (.t 2)⟩,⟨none,.ext 1 (.t 2)⟩,⟨none,.asgP 4 (.t 3)⟩,⟨none,.asg 5 (.t 4)⟩] []) (.seq (.opc [] [⟨none,.mv (.v 5)⟩,⟨none,.bin .neq (.t 0) (.i 0)⟩] [] (.t 1) (.seq (.ops [] [⟨none,.mv (.v 5)⟩,⟨none,.asg 2 (.k (.str []))⟩,⟨none,.asg 3 (.t 0)⟩] []) .ret) .skip) (.seq (.opc [] [⟨none,.mv (.v 1)⟩,⟨none,.len (.t 0)⟩,⟨none,.bin .gtr (.t 1) (.i 40)⟩] [] (.t 2) (.seq (.ops [] [⟨none,.asg 2 (.k (.str []))⟩,⟨none,.asg 3 (.i 2)⟩] []) .ret) .skip) (.seq (.seq (.alt [] (.two 9 11 [0,1,2,3,4,5,6,7,8,10,11,9,12] (.leaf [⟨none,.mv (.v 4)⟩,⟨none,.callk 29 [(.t 0)]⟩,⟨none,.mv (.v 4)⟩,⟨none,.nck (.t 2)⟩,⟨none,.fA 0 (.t 3)⟩,⟨none,.mv (.v 1)⟩,⟨none,.call 39 [(.t 1),(.t 4),(.t 5)]⟩,⟨none,.mv (.t 6)⟩,⟨none,.ext 0 (.t 7)⟩,⟨none,.ext 1 (.t 7)⟩,⟨none,.alc [.nils (.int .i64 0),.nils (ints [])]⟩,⟨none,.stn 2 (.t 10) (.t 8)⟩,⟨none,.asg 6 (.t 9)⟩] []) (.leaf [⟨none,.mv (.v 4)⟩,⟨none,.callk 29 [(.t 0)]⟩,⟨none,.mv (.v 4)⟩,⟨none,.nck (.t 2)⟩,⟨none,.fA 0 (.t 3)⟩,⟨none,.mv (.v 1)⟩,⟨none,.call 39 [(.t 1),(.t 4),(.t 5)]⟩,⟨none,.mv (.t 6)⟩,⟨none,.ext 0 (.t 7)⟩,⟨none,.alc [.nils (.int .i64 0),.nils (ints [])]⟩,⟨none,.stn 2 (.t 9) (.t 8)⟩,⟨none,.ext 1 (.t 7)⟩,⟨none,.asg 6 (.t 11)⟩] []))) (.opc [] [⟨none,.mv (.v 6)⟩,⟨none,.not (.t 0)⟩] [] (.t 1) (.seq (.ops [] [⟨none,.asg 2 (.k (.str []))⟩,⟨none,.asg 3 (.i 5)⟩] []) .ret) .skip)) (.seq (.ops [] [⟨none,.mv (.v 0)⟩,⟨none,.mv (.v 4)⟩,⟨none,.nck (.t 1)⟩,⟨none,.fA 7 (.t 2)⟩,⟨none,.ld (.t 3)⟩,⟨none,.slS (.t 0) none (some (.t 4))⟩,⟨none,.mv (.v 1)⟩,⟨none,.call 36 [(.t 5),(.t 6)]⟩,⟨none,.asg 7 (.t 7)⟩] []) (.seq (.opc [] [⟨none,.mv (.v 7)⟩,⟨none,.lenS (.t 0)⟩,⟨none,.bin .gtr (.t 1) (.i 6000)⟩] [] (.t 2) (.seq (.ops [] [⟨none,.asg 2 (.k (.str []))⟩,⟨none,.asg 3 (.i 3)⟩] []) .ret) .skip) (.seq (.ops [] [⟨none,.mv (.v 7)⟩,⟨none,.asg 2 (.t 0)⟩,⟨none,.asg 3 (.i 0)⟩] []) .ret))))))))
def tr_impl_CommitChanges:List Nat:=[0,1,4,5,6,7,9,10]
def rs_impl_CommitChanges:List RS:=[.t 2,.t 3]
theorem ok_impl_CommitChanges:fnOk Go.Proofs.Tryz.prog Go.Proofs.Tryz.f22 tr_impl_CommitChanges c_impl_CommitChanges 2 rs_impl_CommitChanges=true:=by decide +kernel
theorem ret_impl_CommitChanges (t:List UInt8) (l:List Chg) (ht:t.length≤1048576) (hl:l.length≤1048576):Ret Go.Proofs.Tryz.prog 22 [.v (.str t),.v (lst Chg.d Chg.zero l)] (comD t l (resJ t)):=by
 refine ret_fn Go.Proofs.Tryz.func22 ok_impl_CommitChanges rfl (show 2<500 by decide) rfl ?_;unfold c_impl_CommitChanges tr_impl_CommitChanges rs_impl_CommitChanges;simp only [go_sem,Nat.reduceLT,Nat.reduceAdd,Nat.reduceSub,↓reduceIte]
 refine call_of (ret_impl_historyCode t ht) rfl (.inl (nv_hc _)) ?_
 cases hr:resJ t with
 | none =>
  simp only [hcD]
  simp only [go_sem,Nat.reduceLT,Nat.reduceAdd,Nat.reduceSub,↓reduceIte]
  exact ⟨fun _=>rfl,fun h=>absurd h (by decide)⟩
 | some p =>
  obtain ⟨hok,hH⟩:=resJ_ok hr
  have hs:=sok_of (ok_len hok).1
  have hdl:=hH.dl
  have h6:=hH.t6
  have hgl:=hH.gl
  have hd:=hH.last
  have hnow:=ret_nowK p.1 p.2.dt p.2.tx p.2.gd (by omega) (by omega)
  have hafter:=ret_impl_data_after p.1 p.2.last l hok hd
  rw [allD_P] at hafter
  have hkr:refsL (inB 1) [D.adr 0 [(0,0)]]∧refsL (inB 1) [.o (.ptr (hiC p.1 p.2.dt p.2.tx p.2.gd))]∧(D.agg [.sub 0 [(0,5),(p.2.dt.length-1,0)],.sub 0 [(0,5),(p.2.dt.length-1,1)]]).refs (inB 1):=⟨⟨Nat.zero_lt_one,trivial⟩,⟨trivial,trivial⟩,Nat.zero_lt_one,Nat.zero_lt_one,trivial⟩
  simp only [hcD]
  unfold hiC at hnow hkr ⊢
  simp only [go_sem,Nat.reduceLT,Nat.reduceAdd,Nat.reduceSub,Nat.reduceBEq,↓reduceIte]
  refine ⟨fun h=>absurd h (by decide),fun _=>?_⟩
  refine ⟨fun h40=>?_,fun h40=>?_⟩
  ·simp only [comD]
   rw [if_pos (by omega)]
  ·with_reducible (repeat' apply And.intro)
   all_goals (
    refine k_call [4] hnow (by decide) ⟨⟨by decide,rfl⟩,trivial⟩ ⟨rfl,trivial⟩ hkr rfl ?_
    simp only [go_sem,Nat.reduceLT,Nat.reduceAdd,Nat.reduceSub,↓reduceIte,show sj [4] 0=4 from rfl]
    refine call_wk (bs:=[Dat.d p.2.last,.ptr p.1.cells,lst Chg.d Chg.zero l]) hafter rfl ⟨.inl rfl,.inr ⟨5,_,rfl,rfl⟩,.inl rfl,trivial⟩ (.inl (by simp only [D.novw,novwL,nv_ints,nv_intss,Bool.and_self])) ?_
    simp only [go_sem,Nat.reduceLT,Nat.reduceAdd,Nat.reduceSub,Nat.reduceEqDiff,Nat.reduceBEq,Nat.reduceLeDiff,↓reduceIte]
    refine ⟨fun hb=>?_,fun hb=>⟨⟨Nat.zero_le _,hgl⟩,?_⟩⟩
    ·have hg:goodO p.1 p.2.last l=none:=by
      unfold goodO
      cases hda:Dat.all p.1 p.2.last l with
      | none=>rfl
      | some d =>
       rw [hda] at hb
       have hb:d.wholeB p.1=false:=by simpa [allP] using hb
       rw [Option.bind_some,hb,Bool.and_false];rfl
     simp only [comD,hg]
     rw [if_neg (by omega)]
    ·obtain ⟨d,hda,hw⟩:∃ d,Dat.all p.1 p.2.last l=some d∧d.wholeB p.1=true:=by
      cases hda:Dat.all p.1 p.2.last l with
      | none=>rw [hda] at hb;cases hb
      | some d =>
       rw [hda] at hb
       exact ⟨d,rfl,by simpa [allP] using hb⟩
     have hg:goodO p.1 p.2.last l=some d:=by unfold goodO;rw [hda,Option.bind_some,hw,decide_eq_true (show l.length≤40 by omega)];rfl
     refine call_of (ret_impl_transaction (t.take p.2.gd) l (by rw [List.length_take];omega) (by omega)) rfl (.inl rfl) ?_
     simp only [go_sem,Nat.reduceLT,Nat.reduceAdd,Nat.reduceSub,Nat.reduceBEq,Nat.reduceLeDiff,↓reduceIte]
     refine ⟨fun h6k=>?_,fun h6k=>?_⟩
     ·simp only [comD,hg]
      rw [if_neg (by omega),if_pos (by omega)]
     ·simp only [comD,hg]
      rw [if_neg (by omega),if_neg (by omega)])
end Go.D3
namespace Go.D3
open Go
theorem com_str (t:List UInt8) (l:List Chg) (o:Option (Sch×Hs)):∃ s c,comD t l o=.tup [.str s,.int .i64 c]:=by
 cases o with
 | none=>exact ⟨_,_,rfl⟩
 | some p =>
  simp only [comD]
  split
  ·exact ⟨_,_,rfl⟩
  ·split
   ·exact ⟨_,_,rfl⟩
   ·split<;>exact ⟨_,_,rfl⟩
theorem ret_laws_FnExactCommitChanges (t:List UInt8) (l:List Chg):Ret Go.Proofs.Tryz.prog 6 [.v (.str t),.v (lst Chg.d Chg.zero l)] (.bool true):=law_commit t l fun ht hl=>by
 obtain ⟨s,c,h⟩:=com_str t l (resJ t)
 exact ⟨s,c,h▸ret_spec_CommitChanges t l ht,h▸ret_impl_CommitChanges t l ht hl⟩
end Go.D3
namespace Go.D3
open Go
def chgTy:Ty:=.cons (.int .i64) (.cons (.int .i64) (.cons (.int .i64) (.cons (.int .i64) .nil)))
def toChg:chgTy.V→Chg:=fun x=>⟨x.1,x.2.1,x.2.2.1,x.2.2.2.1⟩
theorem chgs_d (l:List chgTy.V):lst Chg.d Chg.zero (l.map toChg)=(Ty.sl chgTy).d l:=by
 unfold lst
 rw [List.map_map]
 rfl
end Go.D3
namespace Go.Proofs.YtgieggnpnepkfaaGreatDoor
open Go
namespace fnExactCommitChanges
theorem own:ownKnob Go.Proofs.Tryz.prog.godebug=none:=by kernel_rfl
theorem laid:laidOutB Go.Proofs.Tryz.prog=true:=by kernel_rfl
theorem chk:(D3.Ty.cons .str (.cons (.sl D3.chgTy) .nil)).chkAll Go.Proofs.Tryz.prog Go.Proofs.Tryz.f6.params.toList=true:=by kernel_rfl
theorem res:Go.Proofs.Tryz.f6.resultTypes=#[4]:=by kernel_rfl
theorem tb:Go.Proofs.Tryz.prog.underlying 4=some .bool:=by kernel_rfl
theorem np:Go.Proofs.Tryz.f6.params.size=2:=by kernel_rfl
set_option maxRecDepth 100000 in
theorem lifted (hR:∀ (t:List UInt8) (l:List D3.Chg),D3.Ret Go.Proofs.Tryz.prog 6 [.v (.str t),.v (D3.lst D3.Chg.d D3.Chg.zero l)] (.bool true)) (os:Os) (started:os.Started) (H:Type) (enc:TypeId×Value→H) (F:Stop.Interp) :
  ReturnsInHanded {} Go.Proofs.Tryz.checked os 6 .any ((OpenSpec.ofChange Rows.fnExactCommitChangesSpec).preRow enc Go.Proofs.Tryz.prog Go.Proofs.Tryz.f6 Rows.fnExactCommitChangesRow.domain false Rows.fnExactCommitChangesRow.laid) (((OpenSpec.ofChange Rows.fnExactCommitChangesSpec).at F).post enc Go.Proofs.Tryz.prog Go.Proofs.Tryz.f6 false true false false):=by
 refine returnsInHanded_of_row (C:=Go.Proofs.Tryz.checked) (s:=OpenSpec.ofChange Rows.fnExactCommitChangesSpec) own started (by kernel_rfl) Go.Proofs.Tryz.func6
  (ChangeSpec.witness_shaped (enc:=enc) (C:=Go.Proofs.Tryz.checked) (os:=os) (s:=Rows.fnExactCommitChangesSpec) (conds:=Rows.fnExactCommitChangesRow.domain) (X:=fun w _=>laidMetH Go.Proofs.Tryz.prog Rows.fnExactCommitChangesRow.laid w) false (World.laidAll Go.Proofs.Tryz.prog os Rows.fnExactCommitChangesRow.laid) #[.string ⟨#[]⟩,.slice none 0 0] 8 (World.laidAll_os _ _ _)
    (World.shaped_of_ZipB (by kernel_rfl) (by kernel_rfl)) (by kernel_rfl) (by kernel_rfl) (by kernel_rfl)
    (by rw [MakeChecks.laidMetH_plain _ _ _ (by kernel_rfl)];exact laidMet_laidAll _ (by kernel_rfl) (by kernel_rfl))) ?_
 intro W base args ds gs before hval hW _ _ _ hL hS _
 obtain ⟨ms,hms⟩:=D3.errUnder
 obtain ⟨hG,x,hx,ix⟩:=D3.gok_of hL hS
 refine D3.law_contractV (ty:=.cons .str (.cons (.sl D3.chgTy) .nil)) (s:=Rows.fnExactCommitChangesSpec) rfl D3.errName D3.errType hms hx ix res tb laid chk (fun ds e hd=>?_) (fun y=>?_) hG hval hW
 ·rw [np] at hd
  match ds,hd with
  | [d,e],_=>rfl
 ·exact (show ∀ d,D3.lst D3.Chg.d D3.Chg.zero (List.map D3.toChg (y.2.1:List D3.chgTy.V))=d→D3.Ret Go.Proofs.Tryz.prog 6 [.v (.str y.1),.v d] (.bool true) from fun d e=>e▸hR y.1 _) _ (D3.chgs_d y.2.1)
theorem said (hR:∀ (t:List UInt8) (l:List D3.Chg),D3.Ret Go.Proofs.Tryz.prog 6 [.v (.str t),.v (D3.lst D3.Chg.d D3.Chg.zero l)] (.bool true)):Rows.FnExactCommitChangesSaid :=
 OpenClaim.holds_of_cond 6 Go.Proofs.Tryz.f6 rfl rfl rfl rfl rfl rfl rfl ⟨rfl,rfl,rfl,rfl,rfl⟩ rfl rfl rfl rfl rfl (by kernel_rfl) Go.Proofs.Tryz.func6 (by kernel_rfl)
  (of_decide_eq_true (by kernel_rfl)) (by unfold Func.isWrapper;first | (rw [if_pos (by decide +kernel)];kernel_rfl) | (rw [if_neg (by decide +kernel)];exact ⟨rfl,rfl⟩))
  (fun os started H enc _ F=>by rw [OpenClaim.pre_eq_preRow];exact lifted hR os started H enc F)
theorem plain (f:FuncId) (fn:Func) (hf:Tryz.pinned.checked.prog.funcNamed Rows.fnExactCommitChangesRow.func=some f) (hfn:Tryz.pinned.checked.prog.funcs[f]?=some fn) :
  true=Tryz.pinned.checked.prog.looks []∧∀ (j:Nat) t,fn.params[j]?=some t→Tryz.pinned.checked.prog.wantsStandIn t=false:=by
 obtain rfl:f=6:=Option.some.inj ((show Go.Proofs.Tryz.prog.funcNamed Rows.fnExactCommitChangesRow.func=some 6 by kernel_rfl).symm.trans hf) |>.symm
 obtain rfl:fn=Go.Proofs.Tryz.f6:=(Option.some.inj (Go.Proofs.Tryz.func6.symm.trans hfn)).symm
 refine ⟨by kernel_rfl,fun j t ht=>?_⟩
 have hm:t∈Go.Proofs.Tryz.f6.params:=Array.mem_of_getElem? ht
 have hall:(Go.Proofs.Tryz.f6.params.toList.all fun u=>!Go.Proofs.Tryz.prog.wantsStandIn u)=true:=by kernel_rfl
 exact (show Go.Proofs.Tryz.prog.wantsStandIn t=false by simpa using List.all_eq_true.1 hall t (by simpa using hm))
theorem card (hR:∀ (t:List UInt8) (l:List D3.Chg),D3.Ret Go.Proofs.Tryz.prog 6 [.v (.str t),.v (D3.lst D3.Chg.d D3.Chg.zero l)] (.bool true)):Rows.FnExactCommitChangesCardSaid :=
 Claim7.holds_tied_plain_at .later [] _ _ _ _ (said hR) (fun _ h=>by cases h) (by kernel_rfl) (fun _ h=>by cases h) fnExactCommitChanges_row_tie rfl ⟨rfl,rfl⟩ (by kernel_rfl) rfl plain (by kernel_rfl)
end fnExactCommitChanges
end Go.Proofs.YtgieggnpnepkfaaGreatDoor
namespace Go.Proofs.YtgieggnpnepkfaaGreatDoor
open Go
theorem fnExactCommitChanges_proved:Rows.FnExactCommitChangesCardSaid:=fnExactCommitChanges.card D3.ret_laws_FnExactCommitChanges
#print axioms fnExactCommitChanges_proved
end Go.Proofs.YtgieggnpnepkfaaGreatDoor
