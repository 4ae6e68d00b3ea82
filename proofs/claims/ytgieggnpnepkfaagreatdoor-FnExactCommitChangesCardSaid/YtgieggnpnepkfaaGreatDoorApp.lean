/- APPENDING. Generic. -/
import Derived.Test.YtgieggnpnepkfaaGreatDoorStore
import Derived.Deep.Upon
import Derived.Deep.AppendSrc
namespace Go.D3
open Go
theorem cellAt_append {L M:List D} {sz j:Nat} (hz : 0<sz):cellAt (L++M) sz j=if j<L.length*sz then cellAt L sz j else cellAt M sz (j-L.length*sz):=by
 unfold cellAt
 by_cases h:j<L.length*sz
 ·rw [if_pos h,List.getElem?_append_left ((Nat.div_lt_iff_lt_mul hz).2 h)]
 ·have hge:L.length*sz≤j:=by omega
  have hq:L.length≤j / sz:=(Nat.le_div_iff_mul_le hz).2 hge
  rw [if_neg h,List.getElem?_append_right hq]
  obtain ⟨m,rfl⟩:∃ m,j=L.length*sz+m:=⟨j-L.length*sz,by omega⟩
  have e1:(L.length*sz+m) / sz=L.length+m / sz:=by rw [Nat.mul_comm,Nat.mul_add_div hz]
  have e2:(L.length*sz+m) % sz=m % sz:=by rw [Nat.mul_comm,Nat.mul_add_mod]
  rw [e1,e2]
  simp
theorem setCells_row (b:Nat) (e:TypeId) (fz:Nat×Nat):∀ (vs:List Value) (o:Nat) (cs:Array Value) (w:World),w.heap[b]?=some (.cells cs e fz)→w.setCells b o vs=w.setRow b (setVals cs o vs)
 | [],o,cs,w,h=>by rw [World.setCells,setVals,setRow_self w b cs e fz h]
 | v::r,o,cs,w,h=>by
  rw [World.setCells,setCell_eq_setRow w b o cs e fz v h,setCells_row b e fz r (o+1) (cs.setIfInBounds o v) _ (setRow_heap w b cs _ e _ h),setRow_setRow,setVals]
theorem own_grown {w w':World} {A:Nat→Prop} {z:D} {L M:List D} {sz b' off' cap':Nat} {cs':Array Value} {e:TypeId} {fz:Nat×Nat} {ov nv:Nat→Value} (Fs G:Nat→Nat→Prop) {F':Nat→Prop}
  (hold:∀ j x,cellAt L sz j=some x→Own w A (ov j) x (Fs j)) (hdis:∀ i j c,i≠j→Fs i c→¬ Fs j c)
  (hnew:∀ j x,cellAt M sz j=some x→Own w A (nv j) x (G j)) (hGdis:∀ i j c,i≠j→G i c→¬ G j c) (hFG:∀ i j c,Fs i c→¬ G j c)
  (hb:w'.heap[b']?=some (.cells cs' e fz)) (hroom:off'+cap'*sz≤cs'.size∧(fz.2≤fz.1∨cs'.size≤fz.1)) (hc:L.length+M.length≤cap') (hm:cap'≤maxLen) (hz : 0<sz) (hzz:z.cells.length=sz)
  (hL:∀ x∈L,x.cells.length=sz) (hM:∀ x∈M,x.cells.length=sz)
  (hv:∀ j,j<(L.length+M.length)*sz→cs'.getD (off'+j) undef=if j<L.length*sz then ov j else nv (j-L.length*sz))
  (hA:∀ c,A c→w'.heap[c]?=w.heap[c]?) (hkeep:∀ c,((∃ j,Fs j c)∨∃ j,G j c)→w'.heap[c]?=w.heap[c]?∧c≠b'∧F' c) (hF':F' b') :
  Own w' A (.slice (some ⟨b',off',none⟩) (L.length+M.length) cap') (.slice z (L++M)) F':=by
 have hLM:∀ x∈L++M,x.cells.length=sz:=fun x hx=>(List.mem_append.1 hx).elim (hL x) (hM x)
 have key:Own w' A (.slice (some ⟨b',off',none⟩) (L++M).length cap') (.slice z (L++M)) F':=by
  refine .slice (sz:=sz) (fun j c=>if j<L.length*sz then Fs j c else G (j-L.length*sz) c) hb hroom (by simpa using hc) hm hz hzz hLM (fun j x hx=>?_) hF' (fun j c hj=>?_) (fun i j c hij hi hj=>?_)
  ·have hj:=cellAt_lt hz hx
   rw [List.length_append] at hj
   rw [cellAt_append hz] at hx
   rw [hv j hj]
   by_cases h1:j<L.length*sz
   ·simp only [h1,if_true] at hx ⊢
    exact (hold j x hx).mono (fun _ h=>h) hA (fun c hc=>(hkeep c (.inl ⟨j,hc⟩)).1) fun _ h=>h
   ·simp only [h1,if_false] at hx ⊢
    exact (hnew _ x hx).mono (fun _ h=>h) hA (fun c hc=>(hkeep c (.inr ⟨_,hc⟩)).1) fun _ h=>h
  ·split at hj
   ·exact (hkeep c (.inl ⟨j,hj⟩)).2
   ·exact (hkeep c (.inr ⟨_,hj⟩)).2
  ·split at hi<;>split at hj
   ·exact hdis i j c hij hi hj
   ·exact hFG i _ c hi hj
   ·exact hFG j _ c hj hi
   ·exact hGdis _ _ c (by omega) hi hj
 rw [List.length_append] at key
 exact key
section
variable {P:Program} {w:World}
theorem append_run {t ty e:TypeId} {i:TypeInfo} {zv:Value} (ht:P.underlying t=some (.slice e)) (hi:P.info? e=some i) (hz:i.zero=some zv) (hzs:zv.cells.size=i.size) (hsz : 0<i.size) (hby : 0<i.bytes)
  {A:Nat→Prop} {v:Value} {z:D} {L M:List D} {F:Nat→Prop} (hown:Own w A v (.slice z L) F) (hzz:z.cells.length=i.size) (hM:∀ x∈M,x.cells.length=i.size)
  {x:Value} {news:List Value} (hs:Src P i.size t x M.length news w) (G:Nat→Nat→Prop) (hA:∀ c,A c→c<w.heap.size∧¬ F c) (hFlt:∀ c,F c→c<w.heap.size) (hGlt:∀ j c,G j c→c<w.heap.size)
  (hnew:∀ j d,cellAt M i.size j=some d→Own w A (news.getD j undef) d (G j)) (hGdis:∀ i j c,i≠j→G i c→¬ G j c) (hFG:∀ j c,F c→¬ G j c)
  (hbytes:(L.length+M.length)*i.bytes≤140737488355328) :
  ∃ v' w' F',(Builtin.append_ #[t,t] ty #[v,x]).run P w=.ok v' w'∧Own w' A v' (.slice z (L++M)) F'∧w.heap.size≤w'.heap.size∧(∀ b,b<w.heap.size→¬ F b→w'.heap[b]?=w.heap[b]?) ∧
   w'.os=w.os∧w'.tape=w.tape∧w'.output=w.output∧∀ b,F' b→b<w'.heap.size∧(F b∨(∃ j,G j b)∨w.heap.size≤b):=by
 have hmax:L.length+M.length≤140737488355328:=by
  have:(L.length+M.length)*1≤(L.length+M.length)*i.bytes:=Nat.mul_le_mul_left _ hby
  omega
 have hfit:∀ {old:Nat},old<L.length+M.length→Builtin.nextslicecap (L.length+M.length) old*i.bytes≤281474976710656:=fun h=>growslice_fits h hbytes
 have grow:∀ (base:Option Addr) (old:Nat) (olds:List Value) (ov:Nat→Value) (Fs:Nat→Nat→Prop),v=.slice base L.length old→old<L.length+M.length →
   (Builtin.firstCells i.size L.length (.slice base L.length old)).run P w.drew=.ok olds.toArray w.drew→olds.length=L.length*i.size→(∀ j,j<olds.length→olds.getD j undef=ov j) →
   (∀ x∈L,x.cells.length=i.size)→(∀ j x,cellAt L i.size j=some x→Own w A (ov j) x (Fs j))→(∀ i j c,i≠j→Fs i c→¬ Fs j c)→(∀ j c,Fs j c→F c) →
   ∃ v' w' F',(Builtin.append_ #[t,t] ty #[v,x]).run P w=.ok v' w'∧Own w' A v' (.slice z (L++M)) F'∧w.heap.size≤w'.heap.size∧(∀ b,b<w.heap.size→¬ F b→w'.heap[b]?=w.heap[b]?) ∧
    w'.os=w.os∧w'.tape=w.tape∧w'.output=w.output∧∀ b,F' b→b<w'.heap.size∧(F b∨(∃ j,G j b)∨w.heap.size≤b):=by
  rintro base old olds ov Fs rfl hlt hold hlen hov hLsz hown' hdis hFs
  have hrun:=run_append_grow_src (P:=P) w t t ty e i zv ht hi hz base L.length old olds hold x M.length news hs hlt (by omega) (hfit hlt)
  have hge:=grownCap_ge w (L.length+M.length) old e
  have hcm:grownCap w (L.length+M.length) old e≤maxLen:=grownCap_le_maxLen w _ old e (by simp only [maxLen];omega)
  have hnl:=hs.newsLen
  have hF':=own_grown (w:=w) (A:=A) (z:=z) (L:=L) (M:=M) (sz:=i.size) (w':=w.drew.alloc (.cells ((olds++news).toArray++Builtin.zeroCells zv.cells (grownCap w (L.length+M.length) old e-(L.length+M.length))) e)) (b':=w.heap.size) (off':=0)
   (cap':=grownCap w (L.length+M.length) old e) (e:=e) (ov:=ov) (nv:=fun j=>news.getD j undef) Fs G (F':=fun c=>c=w.heap.size∨(∃ j,Fs j c)∨∃ j,G j c) hown' hdis hnew hGdis (fun i j c h=>hFG j c (hFs i c h)) (heap_alloc_new w.drew _)
   (by
     simp only [Array.size_append,List.size_toArray,List.length_append,size_zeroCells,hzs,hlen,hnl,← Nat.add_mul,Nat.zero_add]
     refine ⟨Nat.mul_le_mul_right _ (by omega),.inl (Nat.le_refl _)⟩)
   hge hcm hsz hzz hLsz hM (fun j hj=>by
    rw [Nat.add_mul] at hj
    rw [Nat.zero_add]
    have h1:j<(olds++news).length:=by rw [List.length_append];omega
    have e1:((olds++news).toArray++Builtin.zeroCells zv.cells (grownCap w (L.length+M.length) old e-(L.length+M.length))).getD j undef=(olds++news).getD j undef:=by
     rw [Array.getD_eq_getD_getElem?,List.getD_eq_getElem?_getD,Array.getElem?_append_left (by simpa using h1),List.getElem?_toArray]
    rw [e1]
    by_cases h2:j<L.length*i.size
    ·rw [if_pos h2,← hov j (by omega),List.getD_eq_getElem?_getD,List.getD_eq_getElem?_getD,List.getElem?_append_left (by omega)]
    ·rw [if_neg h2,List.getD_eq_getElem?_getD,List.getD_eq_getElem?_getD,List.getElem?_append_right (by omega),hlen])
   (fun c hc=>heap_alloc_old w.drew _ c (hA c hc).1)
   (fun c hc=>by
     have:c<w.heap.size:=by
      rcases hc with ⟨j,hj⟩ | ⟨j,hj⟩
      ·exact hFlt c (hFs j c hj)
      ·exact hGlt j c hj
     exact ⟨heap_alloc_old w.drew _ c this,by omega,.inr hc⟩) (.inl rfl)
  refine ⟨_,_,_,hrun,hF',by simp,fun b hb _=>heap_alloc_old w.drew _ b hb,rfl,rfl,rfl,fun b hb=>?_⟩
  rcases hb with rfl | ⟨j,hj⟩ | ⟨j,hj⟩
  ·exact ⟨by simp,.inr (.inr (Nat.le_refl _))⟩
  ·have:=hFlt b (hFs j b hj)
   exact ⟨by simp;omega,.inl (hFs j b hj)⟩
  ·have:=hGlt j b hj
   exact ⟨by simp;omega,.inr (.inl ⟨j,hj⟩)⟩
 have nothing:∀ (base:Option Addr) (n cap:Nat),v=.slice base n cap→n≤cap→M=[] →
   (Builtin.append_ #[t,t] ty #[v,x]).run P w=.ok v w:=by
  rintro base n cap rfl hle rfl
  have hn:news=[]:=List.eq_nil_of_length_eq_zero (by simpa using hs.newsLen)
  subst hn
  exact run_append_nothing w t t ty e i ht hi base n cap hle x hs
 cases hown with
 | nil =>
  by_cases hM0:M=[]
  ·have hr:=nothing none 0 0 rfl (Nat.le_refl _) hM0
   exact ⟨_,_,fun _=>False,hr,by rw [hM0];exact .nil,Nat.le_refl _,fun _ _ _=>rfl,rfl,rfl,rfl,fun _ h=>h.elim⟩
  ·refine grow none 0 [] (fun _=>undef) (fun _ _=>False) rfl (by cases M<;>simp_all) (run_firstCells_none w.drew i.size 0 0 0) (by simp) (by simp) (by simp) (fun j x hx=>by simp [cellAt] at hx) (fun _ _ _ _ h=>h.elim) (fun _ _ h=>h.elim)
 | @slice _ _ b off cap sz0 cs e0 fz _ Fs hheap hroom hcap hmaxc hz0 hzz0 hszs hr hFb hfs hdis =>
  have:sz0=i.size:=by rw [← hzz0,hzz]
  subst this
  have hblt:b<w.heap.size:=hFlt b hFb
  have hnl:=hs.newsLen
  have hLcap:L.length*i.size≤cap*i.size:=Nat.mul_le_mul_right _ hcap
  by_cases hfits:L.length+M.length≤cap
  ·have hLM:(L.length+M.length)*i.size≤cap*i.size:=Nat.mul_le_mul_right _ hfits
   rw [Nat.add_mul] at hLM
   have hrun:=run_append_room_src (P:=P) w t t ty e i ht hi b off L.length cap x M.length news hs hfits
    (fun j hj=>by
      have:off+L.length*i.size+j<cs.size:=by omega
      simp [World.cell?,hheap,this]) (fun j hj=>by simp [World.frozen?,hheap];omega)
   rw [setCells_row b e0 fz news _ cs w hheap] at hrun
   have hset:off+L.length*i.size+news.length≤cs.size:=by omega
   have hF':=own_grown (w:=w) (A:=A) (z:=z) (L:=L) (M:=M) (sz:=i.size) (w':=w.setRow b (setVals cs (off+L.length*i.size) news)) (b':=b) (off':=off) (cap':=cap) (e:=e0) (ov:=fun j=>cs.getD (off+j) undef) (nv:=fun j=>news.getD j undef) Fs G
    (F':=fun c=>c=b∨(∃ j,Fs j c)∨∃ j,G j c)
    hr hdis hnew hGdis (fun i j c h=>hFG j c (hfs i c h).2) (setRow_heap w b cs _ e0 _ hheap) (by rw [setVals_size];exact hroom) hfits hmaxc hsz hzz hszs hM
    (fun j hj=>by
      rw [Nat.add_mul] at hj
      rw [setVals_get _ _ _ _ hset]
      by_cases h2:j<L.length*i.size
      ·rw [if_pos h2,if_neg (by omega)]
      ·rw [if_neg h2,if_pos (by omega)]
       congr 1
       omega)
    (fun c hc=>setRow_other w b c _ (by rintro rfl;exact (hA _ hc).2 hFb))
    (fun c hc=>by
      have:c≠b:=by
       rcases hc with ⟨j,hj⟩ | ⟨j,hj⟩
       ·exact (hfs j c hj).1
       ·rintro rfl;exact hFG j c hFb hj
      exact ⟨setRow_other w b c _ this,this,.inr hc⟩) (.inl rfl)
   refine ⟨_,_,_,hrun,hF',by simp,fun c _ hc=>setRow_other w b c _ (by rintro rfl;exact hc hFb),rfl,rfl,rfl,fun c hc=>?_⟩
   rcases hc with rfl | ⟨j,hj⟩ | ⟨j,hj⟩
   ·exact ⟨by simpa using hblt,.inl hFb⟩
   ·exact ⟨by simpa using hFlt c (hfs j c hj).2,.inl (hfs j c hj).2⟩
   ·exact ⟨by simpa using hGlt j c hj,.inr (.inl ⟨j,hj⟩)⟩
  ·have hlen:((List.range (L.length*i.size)).map fun j=>cs.getD (off+j) undef).length=L.length*i.size:=by simp
   refine grow (some ⟨b,off,none⟩) cap ((List.range (L.length*i.size)).map fun j=>cs.getD (off+j) undef) (fun j=>cs.getD (off+j) undef) Fs rfl (by omega) ?_ hlen (fun j hj=>by simp at hj;simp [hj]) hszs hr hdis (fun j c h=>(hfs j c h).2)
   refine run_firstCells_some w.drew i.size L.length ⟨b,off,none⟩ L.length cap _ hlen fun j u hj=>?_
   rw [List.getElem?_map,Option.map_eq_some_iff] at hj
   obtain ⟨k,hk,rfl⟩:=hj
   obtain ⟨hk1,hk2⟩:=List.getElem?_eq_some_iff.1 hk
   simp at hk1 hk2
   subst hk2
   have h3:off+j<cs.size:=by omega
   have hd:w.drew.heap[b]?=some (.cells cs e0 fz):=hheap
   simp [Addr.add_lit,World.cell?,hd,h3]
end
end Go.D3
