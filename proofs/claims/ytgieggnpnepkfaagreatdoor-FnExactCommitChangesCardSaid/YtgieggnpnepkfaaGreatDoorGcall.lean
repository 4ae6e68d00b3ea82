/- CALLS THAT SLOTS ARE LENT TO: soundness. Generic. -/
import Derived.Test.YtgieggnpnepkfaaGreatDoorRen
namespace Go.D3
open Go
section
variable {P:Program} {cx:Ctx} {vl:Nat→Value} {fp:Nat→Nat→Prop} {G:Nat→Prop} {w:World}
theorem Hp.swapS {ct ct':Nat→D} {fp':Nat→Nat→Prop} {F:Nat→Prop} {w':World} (h:Hp cx ct vl fp G w) (S:Nat→Prop) (Q:D→Prop)
  (hin:∀ k,S k→ContOk w' (stab cx fp' F w') (RefOk w' ct' vl) (vl k) (fp' k) (ct' k)) (hout:∀ k,¬ S k→ct' k=ct k) (hfo:∀ k,¬ S k→fp' k=fp k)
  (hfi:∀ k,S k→∀ b,fp' k b→b<w'.heap.size∧(w.heap.size≤b∨∃ j,S j∧fp j b)) (hF:∀ b,F b→b<w'.heap.size∧(w.heap.size≤b∨∃ j,S j∧fp j b))
  (hFd:∀ k,S k→∀ b,fp' k b→¬ F b) (hdis:∀ i j b,S i→S j→i≠j→fp' i b→¬ fp' j b) (hemp:∀ k,S k→(ct' k).isObj=false→∀ b,¬ fp' k b)
  (hrefs:∀ k,¬ S k→(ct k).refs Q) (hkeep:∀ d,Q d→keepR w w' ct ct' vl vl d)
  (hsz:w.heap.size≤w'.heap.size) (hw:∀ b,b<w.heap.size→(∀ j,S j→¬ fp j b)→w'.heap[b]?=w.heap[b]?) (hos:w'.os=w.os) (htape:w'.tape=w.tape) (houtp:w'.output=w.output) :
  Hp cx ct' vl fp' F w':=by
 have own0:∀ b,(w.heap.size≤b∨∃ j,S j∧fp j b)→(cx.F0 b∨cx.w0.heap.size≤b):=fun b hb=>hb.elim (fun hh=>.inr (by have:=h.size;omega)) fun ⟨j,_,hh⟩=>(h.lt j b hh).2
 have nin:∀ {b:Nat} {j:Nat},(w.heap.size≤b∨∃ i,S i∧fp i b)→¬ S j→¬ fp j b:=fun {b j} hb hj hf=>hb.elim (fun hh=>by have:=(h.lt j b hf).1;omega) fun ⟨i,hi,hif⟩=>h.dis i j (by rintro rfl;exact hj hi) b hif hf
 have nst:∀ {b:Nat},(w.heap.size≤b∨∃ i,S i∧fp i b)→¬ stab cx fp G w b:=fun {b} hb hs=>hb.elim (fun hh=>by have:=hs.1.1;omega) fun ⟨i,_,hif⟩=>hs.2.2 i hif
 have hst:∀ b,stab cx fp G w b→stab cx fp' F w' b:=by
  intro b hb
  refine ⟨⟨by have:=hb.1.1;omega,hb.1.2⟩,fun hf=>nst (hF b hf).2 hb,fun k hk=>?_⟩
  by_cases hs:S k
  ·exact nst (hfi k hs b hk).2 hb
  ·rw [hfo k hs] at hk;exact hb.2.2 k hk
 refine ⟨fun k=>?_,fun i j hij b hi hj=>?_,fun k b hk hf=>?_,fun k hk b hb=>?_,fun k b hk=>?_,fun b hb=>⟨(hF b hb).1,own0 b (hF b hb).2⟩,Nat.le_trans h.size hsz,fun b hb hb0=>?_,hos.trans h.os,htape.trans h.tape,houtp.trans h.output⟩
 ·by_cases hs:S k
  ·exact hin k hs
  ·rw [hout k hs,hfo k hs]
   refine (h.ok k).mono (Q:=Q) hst (fun b hb=>hw b hb.1.1 fun j _=>hb.2.2 j) (fun b hb=>hw b (h.lt k b hb).1 fun j hj hf=>h.dis k j (by rintro rfl;exact hs hj) b hb hf) (fun _ h=>h) (hrefs k hs) fun v d hq hr=>hr.keep (refs_mono hkeep hq)
 ·by_cases hsi:S i<;>by_cases hsj:S j
  ·exact hdis i j b hsi hsj hij hi hj
  ·rw [hfo j hsj] at hj;exact nin (hfi i hsi b hi).2 hsj hj
  ·rw [hfo i hsi] at hi;exact nin (hfi j hsj b hj).2 hsi hi
  ·rw [hfo i hsi] at hi;rw [hfo j hsj] at hj;exact h.dis i j hij b hi hj
 ·by_cases hs:S k
  ·exact hFd k hs b hk hf
  ·rw [hfo k hs] at hk;exact nin (hF b hf).2 hs hk
 ·by_cases hs:S k
  ·exact hemp k hs hk b hb
  ·rw [hfo k hs] at hb;rw [hout k hs] at hk;exact h.emp k hk b hb
 ·by_cases hs:S k
  ·exact ⟨(hfi k hs b hk).1,own0 b (hfi k hs b hk).2⟩
  ·rw [hfo k hs] at hk;exact ⟨by have:=(h.lt k b hk).1;omega,(h.lt k b hk).2⟩
 ·rw [hw b (by have:=h.size;omega) fun j _ hf=>(h.lt j b hf).2.elim hb0 fun hh=>by omega]
  exact h.same b hb hb0
theorem sg_in {n:Nat} {js:List Nat} {i:Nat} (h:i<js.length):sg n js i=js[i]:=by simp [sg,h]
theorem sg_out {n:Nat} {js:List Nat} {i:Nat} (h:js.length≤i):sg n js i=1000+n+i:=by simp [sg,h]
theorem sg_inj {n:Nat} {js:List Nat} (hn:js.Nodup) (hb:js.all (fun j=>decide (j<1000+n))=true) (i j:Nat) (h:sg n js i=sg n js j):i=j:=by
 simp only [List.all_eq_true,decide_eq_true_eq] at hb
 by_cases hi:i<js.length<;>by_cases hj:j<js.length
 ·rw [sg_in hi,sg_in hj] at h
  have hp:=List.pairwise_iff_getElem.1 hn
  rcases Nat.lt_trichotomy i j with hij | hij | hij
  ·exact absurd h (hp i j hi hj hij)
  ·exact hij
  ·exact absurd h.symm (hp j i hj hi hij)
 ·rw [sg_in hi,sg_out (by omega)] at h
  have:=hb js[i] (List.getElem_mem hi);omega
 ·rw [sg_out (by omega),sg_in hj] at h
  have:=hb js[j] (List.getElem_mem hj);omega
 ·rw [sg_out (by omega),sg_out (by omega)] at h;omega
theorem lendEq_get {st:St} {σ:Nat→Nat}:∀ {js:List Nat} {gs:List D},lendEq st σ js gs→js.length=gs.length∧∀ (i:Nat) (h:i<js.length),st.cont js[i]=(nth gs i).ren σ
 | [],[],_=>⟨rfl,fun i h=>by simp at h⟩
 | [],_::_,h=>h.elim
 | _::_,[],h=>h.elim
 | j::js,g::gs,⟨h1,h2⟩=>by
  obtain ⟨h3,h4⟩:=lendEq_get h2
  refine ⟨by simp [h3],fun i hi=>?_⟩
  cases i with
  | zero=>exact h1
  | succ i=>exact h4 i (by simpa using hi)
theorem noNew_get:∀ {gs hs:List D},noNew gs hs→gs.length=hs.length∧∀ i,nth gs i=.dead→nth hs i=.dead
 | [],[],_=>⟨rfl,fun _ _=>rfl⟩
 | [],_::_,h=>h.elim
 | _::_,[],h=>h.elim
 | g::gs,h::hs,⟨h1,h2⟩=>by
  obtain ⟨h3,h4⟩:=noNew_get h2
  refine ⟨by simp [h3],fun i hi=>?_⟩
  cases i with
  | zero=>exact h1 hi
  | succ i=>exact h4 i hi
theorem putsG_n (σ:Nat→Nat):∀ (js:List Nat) (hs:List D) (st:St),(putsG σ st js hs).n=st.n
 | [],_,_=>rfl
 | _::_,[],_=>rfl
 | j::js,h::hs,st=>by rw [putsG,putsG_n σ js hs,St.n_put]
theorem putsG_wf (σ:Nat→Nat):∀ (js:List Nat) (hs:List D) {st:St},st.wf→(putsG σ st js hs).wf
 | [],_,_,h=>h
 | _::_,[],_,h=>h
 | _::js,_::hs,_,h=>putsG_wf σ js hs (St.wf_put h _ _)
theorem St.in_put {st:St} {k j:Nat} {c:D}:(st.put k c).in j↔st.in j:=by
 unfold St.put
 split
 ·simp only [St.in,setN_length]
 ·split<;>simp only [St.in]
theorem putsG_cont (σ:Nat→Nat):∀ (js:List Nat) (hs:List D) {st:St},st.wf→js.Nodup→js.length=hs.length→(∀ (i:Nat) (h:i<js.length),¬ st.in js[i]→nth hs i=.dead) →
  (∀ k,k ∉ js→(putsG σ st js hs).cont k=st.cont k)∧∀ (i:Nat) (h:i<js.length),(putsG σ st js hs).cont js[i]=(nth hs i).ren σ
 | [],_,st,_,_,_,_=>⟨fun _ _=>rfl,fun i h=>by simp at h⟩
 | _::_,[],st,_,_,h,_=>by simp at h
 | j::js,h::hs,st,hw,hn,hl,hd=>by
  have hn':=List.nodup_cons.1 hn
  obtain ⟨h1,h2⟩:=putsG_cont σ js hs (st:=st.put j (h.ren σ)) (St.wf_put hw _ _) hn'.2 (by simpa using hl) (fun i hi hin=>hd (i+1) (by simpa using hi) (by rw [St.in_put] at hin;simpa using hin))
  have hj:(st.put j (h.ren σ)).cont j=h.ren σ:=by
   by_cases hin:st.in j
   ·rw [St.cont_put_in hw hin,upd_same]
   ·have:h=.dead:=hd 0 (by simp) (by simpa using hin)
    rw [St.cont_put_out hin,St.cont_out hin,this];rfl
  have ho:∀ k,k≠j→(st.put j (h.ren σ)).cont k=st.cont k:=fun k hk=>by
   by_cases hin:st.in j
   ·rw [St.cont_put_in hw hin,upd_ne _ _ hk]
   ·rw [St.cont_put_out hin]
  refine ⟨fun k hk=>?_,fun i hi=>?_⟩
  ·simp only [List.mem_cons,not_or] at hk
   show (putsG σ (st.put j (h.ren σ)) js hs).cont k=_
   rw [h1 k hk.2,ho k hk.1]
  ·cases i with
   | zero =>
    show (putsG σ (st.put j (h.ren σ)) js hs).cont j=_
    rw [h1 j hn'.1,hj];rfl
   | succ i=>exact h2 i (by simpa using hi)
theorem qG_get:∀ {js:List Nat} {gs hs:List D} {d:D},qG js gs hs d=false→js.length=gs.length→js.length=hs.length→∀ (i:Nat) (h:i<js.length),qG1 js[i] (nth gs i) (nth hs i) d=false
 | [],_,_,_,_,_,_,i,h=>by simp at h
 | j::js,g::gs,h::hs,d,hq,h1,h2,i,hi=>by
  simp only [qG,Bool.or_eq_false_iff] at hq
  cases i with
  | zero=>exact hq.1
  | succ i=>exact qG_get hq.2 (by simpa using h1) (by simpa using h2) i (by simpa using hi)
 | _::_,[],_,_,_,h,_,_,_=>by simp at h
 | _::_,_::_,[],_,_,_,h,_,_=>by simp at h
theorem argG_get {st:St} {σ:Nat→Nat} {js:List Nat} {tg:Bool}:∀ {ds as:List D},argG st σ js tg ds as→ds.length=as.length ∧
  ∀ (i:Nat) (a:D),as[i]?=some a→∃ d,ds[i]?=some d∧(d=a.ren σ∨(tg=true∧gath (fun k=>if js.contains k=true then .dead else st.cont k) 4 d=some a))
 | [],[],_=>⟨rfl,fun i a h=>by simp at h⟩
 | [],_::_,h=>h.elim
 | _::_,[],h=>h.elim
 | d::ds,a::as,⟨h1,h2⟩=>by
  obtain ⟨h3,h4⟩:=argG_get h2
  refine ⟨by simp [h3],fun i a hi=>?_⟩
  cases i with
  | zero=>simp at hi;subst hi;exact ⟨d,rfl,h1⟩
  | succ i=>exact h4 i a (by simpa using hi)
theorem g_sound {st:St} (h:Hp cx st.cont vl fp G w) (hwf:st.wf) {vs:Array Value} {ds:List D} (hvs:vs.size=ds.length) (hds:∀ (j:Nat) (d:D),ds[j]?=some d→Pl w (stab cx fp G w) (RefOk w st.cont vl) (vs.getD j undef) d)
  {f:FuncId} {K:D→St→Prop} (hv:gMain P f ds st K) :
  bodyF P f=true∧Calls P f vs w fun e w'=>∃ (v:Value) (c:D) (st':St),e=.returned v∧K c st'∧(∃ fp' F,Hp cx st'.cont vl fp' F w'∧ContOk w' (stab cx fp' F w') (RefOk w' st'.cont vl) v F c∧(c.isObj=false→∀ b,¬ F b))∧st'.wf∧st'.n=st.n∧∀ i,i<1000→st.cont i=.dead→st'.cont i=.dead:=by
 obtain ⟨js,tg,as,gs,Q,⟨hbody,hR⟩,⟨hnd,hall⟩,hlend,harg,hpostQ⟩:=hv
 refine ⟨hbody,?_⟩
 generalize hσ:sg st.n js=σ at hlend harg hpostQ
 have hinj:∀ i j,σ i=σ j→i=j:=by rw [← hσ];exact sg_inj hnd hall
 obtain ⟨hl1,hl2⟩:=lendEq_get hlend
 obtain ⟨ha1,ha2⟩:=argG_get harg
 have σin:∀ (i:Nat) (hi:i<js.length),σ i=js[i]:=fun i hi=>by rw [← hσ,sg_in hi]
 have σout:∀ i,js.length≤i→σ i=1000+st.n+i:=fun i hi=>by rw [← hσ,sg_out hi]
 have σdead:∀ i,js.length≤i→st.cont (σ i)=.dead:=fun i hi=>by
  rw [σout i hi];exact St.cont_out (by simp only [St.in,not_or,not_and];omega)
 have hct:∀ i,st.cont (σ i)=(nth gs i).ren σ:=fun i=>by
  by_cases hi:i<js.length
  ·rw [σin i hi];exact hl2 i hi
  ·rw [σdead i (by omega),nth_over gs i (by omega)];rfl
 have hfpo:∀ i,js.length≤i→∀ b,¬ fp (σ i) b:=fun i hi=>h.emp _ (by rw [σdead i hi];rfl)
 obtain ⟨B,hB1,hB2,hB3,hB4,hB5⟩:∃ B:Nat→Prop,(∀ b,stab cx fp G w b→B b)∧(∀ b,B b→b<w.heap.size)∧(∀ k b,fp (σ k) b→¬ B b) ∧
   (∀ (j:Nat) (a:D),as[j]?=some a→Pl w B (RefOk w (nth gs) fun i=>vl (σ i)) (vs.getD j undef) a)∧(tg=true∨∀ b,B b→stab cx fp G w b):=by
  have lent:∀ {j:Nat} {a d:D},ds[j]?=some d→d=a.ren σ→Pl w (stab cx fp G w) (RefOk w (nth gs) fun i=>vl (σ i)) (vs.getD j undef) a:=fun {j a d} hd he=>by
   have:=hds j d hd
   rw [he] at this
   exact this.unren hinj hct fun _ _=>rfl
  cases tg with
  | false =>
   refine ⟨stab cx fp G w,fun _ h=>h,fun b hb=>hb.1.1,fun k b hk hb=>hb.2.2 _ hk,fun j a hj=>?_,.inr fun _ h=>h⟩
   obtain ⟨d,hd,he | ⟨he,_⟩⟩:=ha2 j a hj
   ·exact lent hd he
   ·cases he
  | true =>
   have hsB:∀ b,stab cx fp G w b→b<w.heap.size∧∀ i,¬ fp (σ i) b:=fun b hb=>⟨hb.1.1,fun i=>hb.2.2 _⟩
   refine ⟨fun b=>b<w.heap.size∧∀ i,¬ fp (σ i) b,hsB,fun b hb=>hb.1,fun k b hk hb=>hb.2 k hk,fun j a hj=>?_,.inl rfl⟩
   obtain ⟨d,hd,he | ⟨_,he⟩⟩:=ha2 j a hj
   ·exact (lent hd he).mono (Q:=fun _=>True) hsB (fun _ _=>rfl) (refs_all (fun _=>trivial) _) fun _ _ _ h=>h
   ·have hob:∀ k,((fun k=>if js.contains k=true then D.dead else st.cont k) k).isObj=true→k ∉ js∧(fun k=>if js.contains k=true then D.dead else st.cont k) k=st.cont k:=by
     intro k hk
     by_cases hc:js.contains k=true
     ·simp only [hc,if_true] at hk;cases hk
     ·exact ⟨fun hm=>hc (List.contains_iff_mem.2 hm),if_neg hc⟩
    refine .rd (gath_okB (ct:=st.cont) (vl:=vl) (A:=stab cx fp G w) hsB (fun k _ hk=>(hob k hk).2) (fun k _ hk=>⟨fp k,fun b hb=>⟨(h.lt k b hb).1,fun i hi=>?_⟩,h.ok k⟩) 4 (hds j d hd) he)
    have hc:=(hob k hk).1
    by_cases hil:i<js.length
    ·refine h.dis k (σ i) ?_ b hb hi
     rintro rfl
     exact hc (by rw [σin i hil];exact List.getElem_mem hil)
    ·exact hfpo i (by omega) b hi
 refine (hR w B vs (fun i=>vl (σ i)) (fun i=>fp (σ i)) (h.gl.mono hB1 fun _ _=>rfl) hB2 (by rw [hvs,ha1]) hB4 (fun k=>?_) (fun k hk=>h.emp _ (by rw [hct k,isObj_ren];exact hk)) (fun i j b hij hi hj=>h.dis _ _ (fun he=>hij (hinj _ _ he)) b hi hj)
  (fun k b hk=>⟨(h.lt _ b hk).1,hB3 k b hk⟩)).mono ?_
 ·have:=(h.ok (σ k))
  rw [hct k] at this
  exact (this.unren hinj hct fun _ _=>rfl).mono (Q:=fun _=>True) hB1 (fun _ _=>rfl) (fun _ _=>rfl) (fun _ h=>h) (refs_all (fun _=>trivial) _) fun _ _ _ h=>h
 rintro e w' ⟨rc,gs',v,F,gv',Fs',hQ,rfl,hsz,hrc,hrce,hgs,hgse,hgv,hF,hFs,hFsd,hsame,hos,htape,hout⟩
 obtain ⟨hnew,htight,hK⟩:=hpostQ rc gs' hQ
 obtain ⟨hl3,hl4⟩:=noNew_get hnew
 refine ⟨v,_,_,rfl,hK,?_⟩
 generalize hq:qG js gs gs'=q at hK
 have h1:=h.kill q
 rw [← St.cont_kill] at h1
 have hwk:=St.wf_kill hwf q
 obtain ⟨hp1,hp2⟩:=putsG_cont σ js gs' hwk hnd (by omega) (fun i hi hin=>by
  have:¬ st.in js[i]:=by simpa [St.in,St.kill,killL_length] using hin
  refine hl4 i ?_
  have h0:=hl2 i hi
  rw [St.cont_out this] at h0
  exact ren_dead.1 h0.symm)
 generalize hst2:putsG σ (st.kill q) js gs'=st2 at hp1 hp2 hK
 have hwf2:st2.wf:=by rw [← hst2];exact putsG_wf σ js gs' hwk
 have hn2:st2.n=st.n:=by rw [← hst2,putsG_n];rfl
 have hct2:∀ k,nth gs' k≠.dead→st2.cont (σ k)=(nth gs' k).ren σ:=fun k hk=>by
  have hkl:k<js.length:=Classical.byContradiction fun hh=>hk (nth_over gs' k (by omega))
  rw [σin k hkl];exact hp2 k hkl
 have hgl:∀ k,nth gs' k≠.dead→gv' k=vl (σ k):=fun k hk=>hgv k fun hh=>hk (hl4 k hh)
 have hFs0:∀ i,js.length≤i→∀ b,¬ Fs' i b:=fun i hi=>hgse i (by rw [nth_over gs' i (by omega)];rfl)
 let S:Nat→Prop:=fun k=>k∈js
 let fp':Nat→Nat→Prop:=fun k b=>(∃ i,i<js.length∧σ i=k∧Fs' i b)∨(k ∉ js∧fp k b)
 have hSi:∀ i,i<js.length→σ i∈js:=fun i hi=>by rw [σin i hi];exact List.getElem_mem hi
 have hfpS:∀ k,S k→∀ b,fp' k b→∃ i,i<js.length∧σ i=k∧Fs' i b:=fun k hk b hb=>hb.elim id fun hh=>absurd hk hh.1
 have hfo:∀ k,¬ S k→fp' k=fp k:=fun k hk=>by
  funext b
  refine propext ⟨fun hb=>hb.elim (fun ⟨i,hi,he,_⟩=>absurd (he▸hSi i hi) hk) fun hh=>hh.2,fun hb=>.inr ⟨hk,hb⟩⟩
 have hlent:∀ b,(w.heap.size≤b∨∃ j,fp (σ j) b)→(w.heap.size≤b∨∃ j,S j∧fp j b):=fun b hb=>hb.imp id fun ⟨j,hj⟩=>by
  by_cases hjl:j<js.length
  ·exact ⟨σ j,hSi j hjl,hj⟩
  ·exact absurd hj (hfpo j (by omega) b)
 have hpost:∀ b,(stab cx fp G w b∨(w.heap.size≤b∧b<w'.heap.size∧¬ F b∧∀ j,¬ Fs' j b))→stab cx fp' F w' b:=by
  rintro b (hb | ⟨q1,q2,q3,q4⟩)
  ·refine ⟨⟨by have:=hb.1.1;omega,hb.1.2⟩,fun hf=>?_,fun k hk=>?_⟩
   ·exact (hF b hf).2.1.elim (fun hh=>by have:=hb.1.1;omega) fun ⟨j,hj⟩=>hb.2.2 _ hj
   ·rcases hk with ⟨i,_,_,hi⟩ | ⟨_,hk⟩
    ·exact (hFs i b hi).2.elim (fun hh=>by have:=hb.1.1;omega) fun ⟨j,hj⟩=>hb.2.2 _ hj
    ·exact hb.2.2 k hk
  ·refine ⟨⟨q2,fun hh=>by have:=h.size;omega⟩,q3,fun k hk=>?_⟩
   rcases hk with ⟨i,_,_,hi⟩ | ⟨_,hk⟩
   ·exact q4 i hi
   ·have:=(h.lt k b hk).1;omega
 have hA:∀ {c:D} {v:Value} {F0:Nat→Prop} {R:Value→D→Prop},(tg=true→c.tightX=true)→ContOk w' (fun b=>B b∨(w.heap.size≤b∧b<w'.heap.size∧¬ F b∧∀ j,¬ Fs' j b)) R v F0 c→ContOk w' (stab cx fp' F w') R v F0 c:=by
  intro c v F0 R ht hc
  rcases hB5 with htg | hB5
  ·exact tight_cont hc (ht htg)
  ·exact hc.mono (Q:=fun _=>True) (fun b hb=>hpost b (hb.imp (hB5 b) id)) (fun _ _=>rfl) (fun _ _=>rfl) (fun _ h=>h) (refs_all (fun _=>trivial) _) fun _ _ _ h=>h
 have hren:∀ {c:D} {v:Value} {F0:Nat→Prop},ContOk w' (stab cx fp' F w') (RefOk w' (nth gs') gv') v F0 c→ContOk w' (stab cx fp' F w') (RefOk w' st2.cont vl) v F0 (c.ren σ):=fun hc =>
  hc.ren (Q:=fun _=>True) (refs_all (fun _=>trivial) _) fun v d _ hr=>hr.ren hct2 fun k hk=>(hgl k hk).symm
 have h2:Hp cx st2.cont vl fp' F w':=by
  refine h1.swapS S (fun d=>q d=false) (fun k hk=>?_) (fun k hk=>hp1 k hk) hfo (fun k hk b hb=>?_) (fun b hb=>⟨(hF b hb).1,hlent b (hF b hb).2.1⟩) (fun k hk b hb hf=>?_) (fun i j b hi hj hij hbi hbj=>?_) (fun k hk hobj b hb=>?_)
   (fun k _=>by rw [St.cont_kill];exact kill_refs q _) (fun d hd=>?_) hsz (fun b hb hn=>hsame b hb fun j hj=>?_) hos htape hout
  ·obtain ⟨i,hi,rfl⟩:=List.getElem_of_mem (show k∈js from hk)
   rw [hp2 i hi]
   by_cases hdd:nth gs' i=.dead
   ·rw [hdd];exact Pl.dead
   ·have:=hren (hA (fun ht=>tightXL_nth (htight ht).2 i) (hgs i))
    rw [hgl i hdd,σin i hi] at this
    exact this.mono (Q:=fun _=>True) (fun _ h=>h) (fun _ _=>rfl) (fun _ _=>rfl) (fun b hb=>.inl ⟨i,hi,σin i hi,hb⟩) (refs_all (fun _=>trivial) _) fun _ _ _ h=>h
  ·obtain ⟨i,_,_,hi⟩:=hfpS k hk b hb
   exact ⟨(hFs i b hi).1,hlent b (hFs i b hi).2⟩
  ·obtain ⟨i,_,_,hi⟩:=hfpS k hk b hb
   exact (hF b hf).2.2 i hi
  ·obtain ⟨i',_,e1,h1'⟩:=hfpS i hi b hbi
   obtain ⟨j',_,e2,h2'⟩:=hfpS j hj b hbj
   exact hFsd i' j' b (by rintro rfl;exact hij (e1.symm.trans e2)) h1' h2'
  ·obtain ⟨i,hi,rfl,hb'⟩:=hfpS k hk b hb
   rw [σin i hi,hp2 i hi,isObj_ren] at hobj
   exact hgse i hobj b hb'
  ·rw [← hq] at hd
   have hlt:js.length=gs'.length:=by omega
   have hqi:=fun i hi=>qG_get hd hl1 hlt i hi
   have hback:∀ (i:Nat) (hi:i<js.length),(st.kill q).cont js[i]=((nth gs i).ren σ).kill q:=fun i hi=>by rw [St.cont_kill];show (st.cont js[i]).kill q=_;rw [hl2 i hi]
   cases d<;>try trivial
   case sub k p =>
    intro hs
    by_cases hk:k∈js
    ·obtain ⟨i,hi,rfl⟩:=List.getElem_of_mem hk
     have:=hqi i hi
     simp only [qG1,beq_self_eq_true,Bool.true_and,Bool.not_eq_false',Bool.and_eq_true,List.isEmpty_iff] at this
     obtain ⟨rfl,hsh⟩:=this
     have e1:=hback i hi
     have e2:=hp2 i hi
     generalize nth gs i=x at hsh e1
     generalize nth gs' i=y at hsh e2
     cases x<;>cases y<;>simp only [shO,Bool.false_eq_true] at hsh
     rw [e2]
     refine ⟨⟨?_,fun hl=>by cases hl⟩,?_⟩
     ·exact True.intro
     ·rfl
    ·rw [hp1 k hk]
     exact ⟨hs,(valAt_cont (h1.ok k) hs.1 fun b hb=>hsame b (h.lt k b hb).1 fun j hj=>by
      by_cases hjl:j<js.length
      ·exact h.dis k (σ j) (by rintro rfl;exact hk (hSi j hjl)) b hb hj
      ·exact hfpo j (by omega) b hj).1⟩
   case adr k p =>
    intro hs
    by_cases hk:k∈js
    ·obtain ⟨i,hi,rfl⟩:=List.getElem_of_mem hk
     have:=hqi i hi
     simp only [qG1,beq_self_eq_true,Bool.true_and,Bool.not_eq_false',Bool.and_eq_true,beq_iff_eq] at this
     obtain ⟨hpl,hsh⟩:=this
     have e1:=hback i hi
     have e2:=hp2 i hi
     generalize nth gs i=x at hsh e1
     generalize nth gs' i=y at hsh e2
     cases x<;>cases y<;>simp only [shB,Bool.false_eq_true,beq_iff_eq] at hsh
     rename_i l l'
     match p,hpl with
     | [(a,off)],_ =>
      rw [e1] at hs
      obtain ⟨rfl,ho,-⟩:=hs
      rw [e1,e2]
      refine ⟨⟨rfl,?_,trivial⟩,rfl⟩
      simp only [killL_length,renL_length] at ho ⊢
      omega
    ·rw [hp1 k hk]
     exact ⟨hs,(valAt_cont (h1.ok k) hs fun b hb=>hsame b (h.lt k b hb).1 fun j hj=>by
      by_cases hjl:j<js.length
      ·exact h.dis k (σ j) (by rintro rfl;exact hk (hSi j hjl)) b hb hj
      ·exact hfpo j (by omega) b hj).2⟩
  ·by_cases hjl:j<js.length
   ·exact hn (σ j) (hSi j hjl) hj
   ·exact hfpo j (by omega) b hj
 refine ⟨⟨fp',F,h2,hren (hA (fun ht=>(htight ht).1) hrc),fun ho=>hrce (by rw [isObj_ren] at ho;exact ho)⟩,hwf2,hn2,fun i hi hd=>?_⟩
 by_cases hij:i∈js
 ·obtain ⟨k,hk,rfl⟩:=List.getElem_of_mem hij
  rw [hp2 k hk,hl4 k (ren_dead.1 (by rw [← hl2 k hk];exact hd))]
  rfl
 ·rw [hp1 i hij];exact St.kill_dd q hd
theorem res_put {st2:St} {vl:Nat→Value} {fp2:Nat→Nat→Prop} {F:Nat→Prop} {w':World} {v:Value} {c:D} {n:Nat} (h2:Hp cx st2.cont vl fp2 F w') (hwf2:st2.wf) (hn2:st2.n=n) (hc:ContOk w' (stab cx fp2 F w') (RefOk w' st2.cont vl) v F c) (hce:c.isObj=false→∀ b,¬ F b) :
  (∃ fp' G',Hp cx (st2.push c).cont (upd vl (1000+n) v) fp' G' w')∧(st2.push c).wf∧(st2.push c).n=n+1∧∀ i,i<1000→st2.cont i=.dead→(st2.push c).cont i=.dead:=by
 have hd2:st2.cont (1000+n)=.dead:=St.cont_out (by rw [← hn2];simp only [St.in,not_or,not_and];omega)
 refine ⟨?_,St.wf_push hwf2 _,by show st2.n+1=_;rw [hn2],fun i hi hd=>?_⟩
 ·rw [St.cont_push hwf2,hn2]
  exact ⟨_,fun _=>False,h2.put (k:=1000+n) (v:=v) (c:=c) (F:=F) (by rw [hd2];rfl) hc (fun _ h=>h) (fun _ h=>h.elim) (fun _ _ h=>h) hce⟩
 ·rw [St.cont_push hwf2,hn2,upd_ne _ _ (by omega)];exact hd
theorem boxd_sound {cx:Ctx} {vl:Nat→Value} {fp:Nat→Nat→Prop} {G:Nat→Prop} {w:World} {st:St} (hp:Hp cx st.cont vl fp G w) (hwf:st.wf) {d:D} {v:Value} (hpl:Pl w (stab cx fp G w) (RefOk w st.cont vl) v d)
  {K:D→St→Prop} (hab:boxdG d K st):∃ (c:D) (st2:St) (fp2:Nat→Nat→Prop) (G2 F:Nat→Prop),K c st2∧Hp cx st2.cont vl fp2 G2 w∧ContOk w (stab cx fp2 G2 w) (RefOk w st2.cont vl) v F c ∧
   (c.isObj=false→∀ b,¬ F b)∧(∀ b,F b→G2 b)∧(∀ k,st.cont k=.dead→st2.cont k=.dead)∧st2.wf∧st2.n=st.n:=by
 unfold boxdG at hab
 split at hab
 ·rename_i j
  obtain ⟨hobj,hno,hK⟩:=hab
  obtain ⟨hc,ad,he,hv⟩:=pl_adr hpl
  have hp1:=hp.kill (qInto j)
  rw [← St.cont_kill] at hp1
  have hrk:∀ i,((st.kill (qInto j)).cont i).refs (notInto j):=fun i=>by
   rw [St.cont_kill];exact refs_mono (fun d hd=>by cases d<;>simp_all [qInto,notInto]) (kill_refs (qInto j) _)
  have hp2:=hp1.drop j hrk (vl j)
  rw [upd_self] at hp2
  have hwk:=St.wf_kill hwf (qInto j)
  have hin:(st.kill (qInto j)).in j:=Classical.byContradiction fun hh=>by rw [St.cont_out hh] at hobj;cases hobj
  have ec:((st.kill (qInto j)).put j .dead).cont=upd (st.kill (qInto j)).cont j .dead:=St.cont_put_in hwk hin _
  have hvj:v=vl j:=by
   rw [hv]
   have hok:=hp.ok j
   generalize st.cont j=cj at hc he hno hok
   cases cj<;>try exact hc.elim
   ·cases hno
   ·rename_i l
    obtain ⟨_,b,cs,e,Fs0,h1,h2,h3,h4,h5,h6,h7⟩:=hok
    rw [h1] at he ⊢
    simp only [adrAt,kidA,D.un,kidAT,Option.some.injEq] at he
    rw [← he]
   ·simp [D.hasC] at hc
  refine ⟨_,_,_,_,fp j,hK,ec▸hp2,?_,fun hh=>(by rw [hobj] at hh;cases hh),fun b hb=>.inr hb,fun k hk=>?_,St.wf_put hwk _ _,by rw [St.n_put];rfl⟩
  ·rw [hvj,ec]
   refine (hp1.ok j).mono (Q:=notInto j) (fun b hb=>⟨hb.1,fun hg=>hg.elim hb.2.1 (hb.2.2 j),fun i hi=>?_⟩) (fun _ _=>rfl) (fun _ _=>rfl) (fun _ h=>h) (hrk j) fun v d hq hr=>hr.keep (refs_mono (fun q hq=>?_) hq)
   ·by_cases hij:i=j
    ·subst hij;rw [upd_same] at hi;exact hi
    ·rw [upd_ne _ _ hij] at hi;exact hb.2.2 i hi
   ·cases q<;>try trivial
    all_goals
     rename_i i p
     intro hp
     have n1:i≠j:=hq
     simp only [upd_ne _ _ n1]
     exact ⟨hp,trivial⟩
  ·rw [ec]
   simp only [upd]
   split
   ·rfl
   ·exact St.kill_dd _ hk
 ·exact hab.elim
end
section
variable {P:Program} {o:Oper} {cx:Ctx} {vl:Nat→Value} {fp:Nat→Nat→Prop} {G:Nat→Prop} {w:World} {a:Act} {ds:List (Option Nat)} {tr:List Nat} {Q:Exit→Act→World→Prop}
theorem opDyn_s {op:Op} {x:Operand} {xs:List Operand} (h:opDyn op=some (x,xs)):∃ ts,op=.call { callee:=.value x,args:=xs.toArray,argTypes:=ts }:=by
 cases op<;>simp [opDyn] at h
 rename_i c
 obtain ⟨ce,as,tys⟩:=c
 cases ce<;>simp at h
 obtain ⟨rfl,rfl⟩:=h
 exact ⟨tys,rfl⟩
theorem rds_ok {A:Nat→Prop} {R:Value→D→Prop} {rd:X→D}:∀ {xs:List Operand} {ys:List X},isXs ds tr xs ys=true→(∀ y,y∈ys→∀ x,isX ds tr x y=true→PlG w A R (a.eval x) (rd y))→gates rd ys=true →
  xs.length=(rdsL rd ys).length∧∀ (j:Nat) (d:D),(rdsL rd ys)[j]?=some d→Pl w A R ((xs.map a.eval).getD j undef) d
 | [],[],_,_,_=>by simp [rdsL]
 | [],_::_,h,_,_=>by simp [isXs] at h
 | _::_,[],h,_,_=>by simp [isXs] at h
 | x::xs,y::ys,hx,hr,hg=>by
  simp only [isXs,Bool.and_eq_true] at hx
  simp only [gates,Bool.and_eq_true] at hg
  obtain ⟨h1,h2⟩:=rds_ok hx.2 (fun y hy=>hr y (by simp [hy])) hg.2
  refine ⟨by simp [rdsL,h1],fun j d hj=>?_⟩
  cases j with
  | zero =>
   simp [rdsL] at hj
   subst hj
   exact (hr y (by simp) x hx.1).1 hg.1
  | succ j=>simpa using h2 j d (by simpa [rdsL] using hj)
theorem dyn_run {f:FuncId} {x:Operand} {xs:List Operand} {ts:Array TypeId} {cs:Array Value} (ho:o.op=.call { callee:=.value x,args:=xs.toArray,argTypes:=ts }) (hx:a.eval x=.func (.func f) #[] cs) (hb:bodyF P f=true) :
  (execOp a.eval o).run P w=.ok (.enter f ((xs.map a.eval).toArray++cs)) w:=by
 unfold bodyF at hb
 cases hf:P.funcs[f]? with
 | none=>simp [hf] at hb
 | some fn =>
  simp [hf] at hb
  obtain ⟨h1,h2⟩:=hb
  cases hbody:fn.body with
  | none=>simp [hbody] at h1
  | some c=>simp [execOp,ho,resolve,hx,Deferred.ofValue,invoke,callFunc,hf,h2,hbody]
theorem dyn_sound {st:St} (h:Hp cx st.cont vl fp G w) (hw:st.wf) {x0:X} {r:List X} (hk:isK P ds tr o (.dyn x0 r)=true)
  (hx:∀ y,y∈x0::r→∀ x,isX ds tr x y=true→PlG w (stab cx fp G w) (RefOk w st.cont vl) (a.eval x) (st.rd y)) {g:Option Bool} (hg:g≠some false) {K:St→Prop}
  (hv:@dynVC P (st.rd x0).core (rdsL st.rd r) (gates st.rd (x0::r)) g ⟨K⟩ st) {K':Act→World→Prop}
  (hK':∀ (v:Value) (w':World) (st':St),K st'→(∃ fp' G',Hp cx st'.cont (upd vl (1000+st.n) v) fp' G' w')→st'.wf→st'.n=st.n+1→(∀ i,i<1000→st.cont i=.dead→st'.cont i=.dead)→K' (a.put o.dst v) w'):o.wp P a w K' Q:=by
 simp only [isK] at hk
 split at hk<;>try (cases hk;done)
 rename_i x' as hop
 obtain ⟨ts,ho⟩:=opDyn_s hop
 simp only [Bool.and_eq_true] at hk
 have hp0:=hx x0 (by simp) x' hk.1
 generalize hrd:st.rd x0=d0 at hv hp0
 obtain ⟨gd,hv⟩:∃ gd,@dyn1 P d0.core (rdsL st.rd r) (gates st.rd (x0::r)) gd ⟨K⟩ st:=by
  cases g with
  | none=>exact ⟨false,hv⟩
  | some b=>cases b with
   | false=>exact absurd rfl hg
   | true=>exact ⟨true,hv⟩
 unfold dyn1 at hv
 split at hv
 ·rename_i f caps hcore
  have hgt:gates st.rd (x0::r)=true:=hv.1
  have hg2:(d0.gate&&gates st.rd r)=true:=by simpa only [gates,hrd] using hgt
  simp only [Bool.and_eq_true] at hg2
  have hpf:=hp0.1 hg2.1
  rw [hcore] at hpf
  obtain ⟨cs,hcv,hcs,hcp⟩:=pl_fn hpf
  obtain ⟨h1,h2⟩:=rds_ok (rd:=st.rd) hk.2 (fun y hy=>hx y (by simp [hy])) hg2.2
  obtain ⟨hb,hcalls⟩:=g_sound (vs:=(as.map a.eval).toArray++cs) (ds:=rdsL st.rd r++caps) h hw (by simp [h1,hcs]) (fun j d hj=>by
   by_cases hjl:j<(rdsL st.rd r).length
   ·rw [List.getElem?_append_left hjl] at hj
    have:=h2 j d hj
    rw [Array.getD_eq_getD_getElem?,Array.getElem?_append_left (by simp;omega)]
    simpa using this
   ·rw [List.getElem?_append_right (by omega)] at hj
    have:=hcp _ d hj
    rw [Array.getD_eq_getD_getElem?,Array.getElem?_append_right (by simp;omega)]
    have e:j-(as.map a.eval).toArray.size=j-(rdsL st.rd r).length:=by simp [h1]
    rw [e,← Array.getD_eq_getD_getElem?]
    exact this) hv.2
  unfold Oper.wp
  rw [dyn_run ho hcv hb,Oper.upon_enter]
  refine hcalls.mono ?_
  rintro e w' ⟨v,c,st',rfl,⟨q0,q1⟩,⟨fp2,F,q2,q2',q2''⟩,q3,q4,q5⟩
  have hcc:ContOk w' (stab cx fp2 F w') (RefOk w' st'.cont vl) v F (if gd=true then .when true c else c)∧((if gd=true then D.when true c else c).isObj=false→∀ b,¬ F b):=by
   cases gd with
   | false=>exact ⟨q2',q2''⟩
   | true =>
    have hF:=q2'' (okc_obj (q0 rfl))
    exact ⟨⟨fun _=>(okc_cont (q0 rfl)).1 q2',fun h=>by cases h⟩,fun _=>hF⟩
  obtain ⟨r1,r2,r3,r4⟩:=res_put q2 q3 q4 hcc.1 hcc.2
  exact hK' v w' _ q1 r1 r2 r3 fun i hi hd=>r4 i hi (q5 i hi hd)
 ·exact hv.elim
end
end Go.D3
