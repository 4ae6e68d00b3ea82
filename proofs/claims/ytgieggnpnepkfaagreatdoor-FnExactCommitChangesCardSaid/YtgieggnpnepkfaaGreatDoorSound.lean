/- CONTROL: a text whose condition holds runs as it says. Generic. -/
import Derived.Test.YtgieggnpnepkfaaGreatDoorTwo
namespace Go.D3
open Go
section
variable {P:Program} {Q:Exit→Act→World→Prop} {a:Act} {w:World} {cx:Ctx} {nt:Nat} {tr pre:List Nat}
theorem wp_loop_ix {c:Code} (J:Nat→Act→World→Prop) {n0:Nat} (h0:J n0 a w)
  (round:∀ n a w,J n a w→c.wp P (Exit.then (fun a' w'=>∃ m,m<n∧J m a' w') Q) a w):(Code.loop c).wp P Q a w:=by
 classical
 let μ:Act→World→Nat:=fun a w=>if h:∃ m,J m a w∧∀ k,J k a w→m≤k then Classical.choose h else 0
 have hμ:∀ a w n,J n a w→J (μ a w) a w∧μ a w≤n:=by
  intro a w n hn
  have h:=least' (fun n=>J n a w) n hn
  have e:μ a w=Classical.choose h:=by simp only [μ];rw [dif_pos h]
  have:=Classical.choose_spec h
  rw [e]
  exact ⟨this.1,this.2 n hn⟩
 refine wp_loop (fun a w=>∃ n,J n a w) μ ⟨n0,h0⟩ fun a w ⟨n,hn⟩=>?_
 refine wp_mono (round (μ a w) a w (hμ a w n hn).1) fun e a' w' hq=>?_
 cases e with
 | normal =>
  obtain ⟨m,hm,hJ⟩:=hq
  exact ⟨⟨m,hJ⟩,Nat.lt_of_le_of_lt (hμ a' w' m hJ).2 hm⟩
 | _=>exact hq
def Bm (cx:Ctx) (nt:Nat) (tr:List Nat) (env:List D) (a:Act) (w:World):Prop:=Fm cx nt tr [] [] ⟨env,0,[]⟩ a w
theorem Bm.forget {env:List D} (h:Bm cx nt tr env a w) (js:List Nat):Bm cx nt tr (begS js ⟨env,0,[]⟩).env a w:=by
 obtain ⟨vl,fp,G,hp,htr,htm,hgh⟩:=h.ex
 obtain ⟨fp',G',b1,b2,b3,b4,b5⟩:=begS_hp js hp h.wf
 have e:(begS js ⟨env,0,[]⟩)=⟨(begS js ⟨env,0,[]⟩).env,0,[]⟩:=by
  have hn:(begS js ⟨env,0,[]⟩).n=0:=b3
  have ht:(begS js ⟨env,0,[]⟩).tmp=[]:=by
   have:=b2;simp only [St.wf,hn] at this;exact List.length_eq_zero_iff.1 this
  cases hs:begS js ⟨env,0,[]⟩ with
  | mk env n tmp=>rw [hs] at hn ht;simp only at hn ht;subst hn ht;rfl
 rw [e] at b1 b2
 exact ⟨⟨vl,fp',G',b1,htr,fun i t hi _=>by simp at hi,hgh⟩,b2,fun j hj=>by simp at hj,h.size,h.defers⟩
theorem slots_of {ops:Array Oper} {l:List SOp} {post:List (Nat×Nat)} {draw:Bool} (ht:okTr nt tr=true) (hf:fitR P nt tr ops draw pre l post=true):Slots nt tr pre (resDsts (eops tr draw ops l).toList l):=by
 simp only [okTr,Bool.and_eq_true,List.all_eq_true,decide_eq_true_eq] at ht
 simp only [fitR,Bool.and_eq_true,List.all_eq_true,decide_eq_true_eq] at hf
 obtain ⟨⟨⟨⟨⟨⟨⟨⟨_,_⟩,h1⟩,h2⟩,_⟩,h3⟩,_⟩,_⟩,_⟩:=hf
 exact ⟨nodupO_inj h1,apartD_get h2,nodupN_inj ht.1.1,fun i t hi=>ht.1.2 t (List.mem_of_getElem? hi),ht.2,fun j hj=>h3 j (by simpa using hj)⟩
theorem resDsts_length:∀ {l:List Oper} {sl:List SOp},l.length=sl.length→(resDsts l sl).length=l.length
 | [],[],_=>rfl
 | _::_,[],h=>by simp at h
 | [],_::_,h=>by simp at h
 | o::l,s::r,h=>by simp only [resDsts,List.length_cons];rw [resDsts_length (by simpa using h)]
theorem region_text {ops:Array Oper} {l:List SOp} {post:List (Nat×Nat)} {id:Nat} {env:List D} {K:St→Prop} (ht:okTr nt tr=true) (hf:fitR P nt tr ops false pre l post=true) (h:Bm cx nt tr env a w)
  (hv:vcOps P K l (begS pre ⟨env,0,[]⟩)) (hQ:∀ a w st,K st→Fm cx nt tr pre (resDsts ops.toList l) st a w→(resDsts ops.toList l).length=st.n→Bm cx nt tr (fin post st) a w→Q .normal a w):(Code.region id ops false).wp P Q a w:=by
 have hS:=slots_of ht hf
 rw [eops_text] at hS
 simp only [fitR,eops_text,Bool.and_eq_true,List.all_eq_true,decide_eq_true_eq] at hf
 obtain ⟨⟨⟨⟨⟨⟨⟨⟨hsz,h0⟩,_⟩,_⟩,hpo⟩,_⟩,hop⟩,_⟩,_⟩:=hf
 obtain ⟨vl,fp,G,hp,htr,htm,hgh⟩:=h.ex
 obtain ⟨fp',G',b1,b2,b3,b4,b5⟩:=begS_hp pre hp h.wf
 have hF:Fm cx nt tr pre (resDsts ops.toList l) (begS pre ⟨env,0,[]⟩) a w :=
  ⟨⟨vl,fp',G',b1,fun j t hj _=>htr j t hj (by simp),fun i t hi _=>by rw [b3] at hi;simp at hi,hgh⟩,b2,fun j hj=>b5 j (by simpa using hj),h.size,h.defers⟩
 have hlen:(resDsts ops.toList l).length=ops.size:=by rw [resDsts_length (by simpa using hsz)];simp
 obtain ⟨p1,p2⟩:=postOk_get hpo
 refine wp_region ?_
 have:=ops_run (P:=P) (Q:=Q) (ops:=ops) hS (fun i t hi=>by have:=resDsts_dst hi;simpa using this) ops.toList l 0 (by simp) h0 (fun s hs=>hop s hs) (by simp) b3 hF hv
  (fun a w st hK hn hF=>hQ a w st hK hF (by rw [hlen,hn];simp) (region_end hS hF (by rw [hlen,hn];simp) p1 p2))
 rw [Array.length_toList,← List.range_eq_range'] at this
 exact this
theorem Hp.drew {ct:Nat→D} {vl:Nat→Value} {fp:Nat→Nat→Prop} {G:Nat→Prop} (h:Hp cx ct vl fp G w) (n:Nat):Hp cx ct vl fp G { w with drawn:=n }:=by
 have h1:=h.grow (w':={ w with drawn:=n }) (Nat.le_refl _) (fun _ _=>rfl) rfl rfl rfl
 exact h1.release fun b hb=>.inl hb
theorem region_any {ops:Array Oper} {l:List SOp} {post:List (Nat×Nat)} {env:List D} {K:St→Prop} (ht:okTr nt tr=true) (hf:fitR P nt tr ops true pre l post=true) (h:Bm cx nt tr env a w)
  (hv:vcOps P K l (begS pre ⟨env,0,[]⟩)) (hQ:∀ a w st,K st→Fm cx nt tr pre (resDsts (eops tr true ops l).toList l) st a w→(resDsts (eops tr true ops l).toList l).length=st.n→Bm cx nt tr (fin post st) a w→Q .normal a w) :
  P.follows .mixedOrders=true∧wpAny P .any ops (fun e a w=>Q e a w∧∀ c,e≠.panic c) ops.size (Array.replicate ops.size false) a { w with drawn:=w.drawn+1 }:=by
 have hS:=slots_of ht hf
 simp only [fitR,Bool.and_eq_true,List.all_eq_true,decide_eq_true_eq,Bool.not_true,Bool.false_or] at hf
 obtain ⟨⟨⟨⟨⟨⟨⟨⟨hsz,h0⟩,_⟩,_⟩,hpo⟩,_⟩,hop⟩,⟨hmix,hed⟩,hdr⟩,hnd⟩:=hf
 obtain ⟨vl,fp,G,hp,htr,htm,hgh⟩:=h.ex
 obtain ⟨fp',G',b1,b2,b3,b4,b5⟩:=begS_hp pre hp h.wf
 have hlen:(resDsts (eops tr true ops l).toList l).length=(eops tr true ops l).size:=by rw [resDsts_length (by simpa using hsz)];simp
 obtain ⟨p1,p2⟩:=postOk_get hpo
 have hF:Fm cx nt tr pre (resDsts (eops tr true ops l).toList l) (begS pre ⟨env,0,[]⟩) a { w with drawn:=w.drawn+1 } :=
  ⟨⟨vl,fp',G',b1.drew _,fun j t hj _=>htr j t hj (by simp),fun i t hi _=>by rw [b3] at hi;simp at hi,hgh⟩,b2,fun j hj=>b5 j (by simpa using hj),h.size,h.defers⟩
 have hR:Rg P nt tr pre (eops tr true ops l) l (kH tr true ops l):=⟨hS,hsz,h0,fun s hs=>hop s hs,by simpa [edgesOk,List.all_eq_true] using hed,hdr⟩
 have hn0:(begS pre ⟨env,0,[]⟩).n=0:=b3
 have hT0:∀ i n,(Array.replicate n false).getD i false=false:=fun i n=>by
  simp [Array.getD]
 by_cases hnh:needH true ops l=true
 ·refine ⟨hmix,?_⟩
  have he:eops tr true ops l=permO (hoistL tr ops) ops:=by unfold eops;rw [if_pos hnh]
  rw [hnh,Bool.not_true,Bool.false_or] at hnd
  simp only [Bool.and_eq_true,decide_eq_true_eq] at hnd
  obtain ⟨⟨⟨⟨n1,n2⟩,n3⟩,n4⟩,n5⟩:=hnd
  simp only [preOk,Bool.and_eq_true,List.all_eq_true,List.mem_range] at n4
  obtain ⟨⟨n4,n6⟩,n7⟩:=n4
  refine perm_run n1 n2 n3 ?_
  rw [← he]
  refine draw_first hR (fun a w st hK hn hF=>⟨hQ a w st hK hF (by rw [hlen,hn,hsz]) (region_end hS hF (by rw [hlen,hn,hsz]) p1 p2),fun c hc=>by cases hc⟩) (fun c a w hh=>hh.2 c rfl) (fun i s hi hs=>?_) n6 n7 n5
   (kH tr true ops l) l _ _ _ a _ (by rw [hn0];omega) (by rw [hn0];rfl) hF hv ⟨by rw [he,permO_size,(permOk_get n1).1];simp,fun j hj=>by rw [hT0] at hj;cases hj⟩ (fun i hi=>by rw [hT0,hn0];simp) ?_
  ·refine n4 s (List.mem_of_getElem? (i:=i) ?_)
   rw [List.getElem?_take,if_pos hi];exact hs
  ·unfold unl
   rw [he,permO_size,(permOk_get n1).1]
   exact Nat.le_trans (List.countP_le_length) (by simp)
 ·refine ⟨hmix,?_⟩
  have he:eops tr true ops l=ops:=by unfold eops;rw [if_neg hnh]
  have hk:kH tr true ops l=0:=by unfold kH;rw [if_neg hnh]
  rw [hk] at hR
  rw [he] at hQ hlen hR hS hF hsz p1
  refine draw_any hR (fun a w st hK hn hF=>⟨hQ a w st hK hF (by rw [hlen,hn,hsz]) (region_end hS hF (by rw [hlen,hn,hsz]) p1 p2),fun c hc=>by cases hc⟩) (l.length+1) l _ _ _ a _ (by omega) (Nat.zero_le _) (by rw [hn0];rfl) (by rw [hn0];omega) hF hv
   ⟨by simp,fun j hj=>by rw [hT0] at hj;cases hj⟩ (fun i hi=>by rw [hT0,hn0];simp) ?_
  unfold unl
  exact Nat.le_trans (List.countP_le_length) (by simp)
theorem region_run {ops:Array Oper} {l:List SOp} {post:List (Nat×Nat)} {id:Nat} {env:List D} {K:St→Prop} {draw:Bool} (ht:okTr nt tr=true) (hf:fitR P nt tr ops draw pre l post=true) (h:Bm cx nt tr env a w)
  (hv:vcOps P K l (begS pre ⟨env,0,[]⟩)) (hQ:∀ a w st,K st→Fm cx nt tr pre (resDsts (eops tr draw ops l).toList l) st a w→(resDsts (eops tr draw ops l).toList l).length=st.n→Bm cx nt tr (fin post st) a w→Q .normal a w):(Code.region id ops draw).wp P Q a w:=by
 cases draw with
 | false=>rw [eops_text] at hQ;exact region_text ht hf h hv hQ
 | true =>
 obtain ⟨hmix,hw⟩:=region_any ht hf h hv hQ
 exact wp_mono (Q:=fun e a w=>Q e a w∧∀ c,e≠.panic c) (wp_region_any hmix hw) fun e a w hh=>hh.1
theorem region_lin {env:List D} {K:List D→Prop} (ht:okTr nt tr=true) (h:Bm cx nt tr env a w) (hQ:∀ a w env,K env→Bm cx nt tr env a w→Q .normal a w):∀ (t:RT) (ops:Array Oper),fitT P nt tr pre t ops=true→vcT P t K (begS pre ⟨env,0,[]⟩) →
  P.follows .mixedOrders=true∧Lin P ops (fun e a w=>Q e a w∧∀ c,e≠.panic c) a { w with drawn:=w.drawn+1 }
 | .leaf l post,ops,hf,hv=>by
  obtain ⟨h1,h2⟩:=region_any ht hf h hv fun a w st hK _ _ hB=>hQ a w _ hK hB
  exact ⟨h1,lin_of_any h2⟩
 | .two i j pm x y,ops,hf,hv=>by
  simp only [fitT,Bool.and_eq_true,decide_eq_true_eq] at hf
  obtain ⟨⟨⟨⟨⟨⟨⟨hij,hi⟩,hj⟩,hE⟩,hG⟩,hP⟩,h1⟩,h2⟩:=hf
  obtain ⟨hm,k1⟩:=region_lin ht h hQ x _ h1 hv.1
  obtain ⟨_,k2⟩:=region_lin ht h hQ y _ h2 hv.2
  exact ⟨hm,lin_two hij k1 (perm_lin (by rw [addE_size];exact hP) (addE_guards hG) (addE_edges hE hj) k2)⟩
theorem cond_run {st:St} {ds:List (Option Nat)} (h:Fm cx nt tr pre ds st a w) (hn:ds.length=st.n) {x:Operand} {y:X} {p q:Code} (hx:isX ds tr x y=true) {A B:Prop} (hg:(st.rd y).gate=true) (hv:condVC (st.rd y).core A B)
  (hp:A→p.wp P Q a w) (hq:B→q.wp P Q a w):(Code.cond x p q).wp P Q a w:=by
 obtain ⟨vl,fp,G,hh,htr,htm,hgh⟩:=h.ex
 have hok:PlG w (stab cx fp G w) (RefOk w st.cont vl) (a.eval x) (st.rd y):=by
  refine isX_ok hh htr htm hx (fun i hi=>?_) fun j hj=>?_
  ·subst hi
   rw [← hn]
   cases x<;>simp only [isX,Bool.false_eq_true] at hx
   ·exact (List.getElem?_eq_some_iff.1 (by simpa using hx)).1
  ·subst hj
   cases hpre:pre.contains j with
   | false=>rfl
   | true =>
    exfalso
    have hd:=h.dd j hpre
    have:st.rd (.v j)=.dead:=by show opv j (st.cont j)=_;rw [hd];rfl
    rw [this] at hv
    exact hv
 have h1:=hok.1 hg
 generalize (st.rd y).core=d at hv h1
 unfold condVC at hv
 split at hv
 ·exact wp_cond_split (pl_bool h1) (fun hb=>hp (hv.1 hb)) (fun hb=>hq (hv.2 hb))
 ·exact hv.elim
theorem rd_gate_plain {env:List D} {y:X} {A B:Prop} (hv:condVC ((⟨env,0,[]⟩:St).rd y) A B):((⟨env,0,[]⟩:St).rd y).gate=true∧condVC ((⟨env,0,[]⟩:St).rd y).core A B:=by
 revert hv
 generalize (⟨env,0,[]⟩:St).rd y=d
 intro hv
 unfold condVC at hv
 split at hv
 ·exact ⟨rfl,hv⟩
 ·exact hv.elim
theorem vc_sound (ht:okTr nt tr=true):∀ (c:C) (code:Code) {K:List D→Prop} {E:Ex} {env:List D} {a:Act} {w:World} {Q:Exit→Act→World→Prop},fitC P nt tr code c=true→vcC P c K E env→Bm cx nt tr env a w →
  (∀ a w env,K env→Bm cx nt tr env a w→Q .normal a w)→(∀ i a w env,E.ex i env→Bm cx nt tr env a w→Q (.exit i) a w)→(∀ a w env,E.ret env→Bm cx nt tr env a w→Q .ret a w)→code.wp P Q a w
 | .skip,code,K,E,env,a,w,Q,hf,hv,h,hN,hE,hR=>by
  cases code with
  | skip=>exact wp_skip (hN a w env hv h)
  | _=>simp [fitC] at hf
 | .ops pre l post,code,K,E,env,a,w,Q,hf,hv,h,hN,hE,hR=>by
  cases code with
  | region id ops d =>
   simp only [fitC] at hf
   exact region_run ht hf h hv fun a w st hK _ _ hB=>hN a w _ hK hB
  | seq x y=>cases x<;>first | (simp [fitC] at hf;done) | (cases y<;>first | (simp [fitC] at hf;done) | (rename_i u v;cases u<;>simp [fitC] at hf))
  | _=>simp [fitC] at hf
 | .alt pre t,code,K,E,env,a,w,Q,hf,hv,h,hN,hE,hR=>by
  cases code with
  | region id ops d =>
   simp only [fitC,Bool.and_eq_true] at hf
   obtain ⟨⟨rfl,hed⟩,hf⟩:=hf
   obtain ⟨hm,hl⟩:=region_lin ht h hN t ops hf hv
   exact wp_mono (Q:=fun e a w=>Q e a w∧∀ c,e≠.panic c) (wp_region_lin hm hed hl) fun e a w hh=>hh.1
  | seq x y=>cases x<;>first | (simp [fitC] at hf;done) | (cases y<;>first | (simp [fitC] at hf;done) | (rename_i u v;cases u<;>simp [fitC] at hf))
  | _=>simp [fitC] at hf
 | .opc pre l post y p q,code,K,E,env,a,w,Q,hf,hv,h,hN,hE,hR=>by
  unfold fitC at hf
  split at hf<;>try (first | (cases hf;done) | contradiction)
  rename_i heq
  cases heq
  rename_i id ops d x cp cq
  simp only [Bool.and_eq_true] at hf
  obtain ⟨⟨⟨hf,hx⟩,hp⟩,hq⟩:=hf
  refine wp_seq (region_run ht hf h hv fun a w st hK hF hn hB=>?_)
  exact cond_run hF hn hx hK.1 hK.2 (fun hv=>vc_sound ht p cp hp hv hB hN hE hR) (fun hv=>vc_sound ht q cq hq hv hB hN hE hR)
 | .opq pre l post y p q r,code,K,E,env,a,w,Q,hf,hv,h,hN,hE,hR=>by
  unfold fitC at hf
  split at hf<;>try (first | (cases hf;done) | contradiction)
  rename_i heq
  cases heq
  rename_i id ops d x cp cq cr
  simp only [Bool.and_eq_true] at hf
  obtain ⟨⟨⟨⟨hf,hx⟩,hp⟩,hq⟩,hr⟩:=hf
  refine wp_seq (region_run ht hf h hv fun a w st hK hF hn hB=>?_)
  refine wp_seq (cond_run hF hn hx hK.1 hK.2 (fun hv=>vc_sound ht p cp hp hv hB (fun a w env hK hB=>?_) hE hR) (fun hv=>vc_sound ht q cq hq hv hB (fun a w env hK hB=>?_) hE hR))
  ·exact vc_sound ht r cr hr hK hB hN hE hR
  ·exact vc_sound ht r cr hr hK hB hN hE hR
 | .seq x y,code,K,E,env,a,w,Q,hf,hv,h,hN,hE,hR=>by
  unfold fitC at hf
  split at hf<;>try (first | (cases hf;done) | contradiction)
  rename_i heq
  cases heq
  rename_i cx' cy
  simp only [Bool.and_eq_true] at hf
  exact wp_seq (vc_sound ht x cx' hf.1 hv h (fun a w env hK hB=>vc_sound ht y cy hf.2 hK hB hN hE hR) hE hR)
 | .cond y p q,code,K,E,env,a,w,Q,hf,hv,h,hN,hE,hR=>by
  unfold fitC at hf
  split at hf<;>try (first | (cases hf;done) | contradiction)
  rename_i heq
  cases heq
  rename_i x cp cq
  simp only [Bool.and_eq_true] at hf
  obtain ⟨hg,hc⟩:=rd_gate_plain hv
  exact cond_run h rfl hf.1.1 hg hc (fun hv=>vc_sound ht p cp hf.1.2 hv h hN hE hR) (fun hv=>vc_sound ht q cq hf.2 hv h hN hE hR)
 | .block id c,code,K,E,env,a,w,Q,hf,hv,h,hN,hE,hR=>by
  unfold fitC at hf
  split at hf<;>try (first | (cases hf;done) | contradiction)
  rename_i heq
  cases heq
  rename_i id' c'
  simp only [Bool.and_eq_true,beq_iff_eq] at hf
  obtain ⟨rfl,hf⟩:=hf
  refine wp_block (vc_sound ht c c' hf hv h (fun a w env hK hB=>hN a w env hK hB) (fun i a w env hn hB=>?_) (fun a w env hn hB=>hR a w env hn hB))
  simp only [Exit.inBlock]
  by_cases hi:i=id'
  ·simp only [hi,if_true] at hn ⊢
   exact hN a w env hn hB
  ·simp only [hi,if_false] at hn ⊢
   exact hE i a w env hn hB
 | .loop c,code,K,E,env,a,w,Q,hf,hv,h,hN,hE,hR=>by
  unfold fitC at hf
  split at hf<;>try (first | (cases hf;done) | contradiction)
  rename_i heq
  cases heq
  rename_i c'
  obtain ⟨js,α,S,I,μ,x0,hI,he,hr⟩:=hv
  refine wp_loop_ix (fun n a w=>∃ x,μ x=n∧I x∧Bm cx nt tr (S x) a w) (n0:=μ x0) ⟨x0,rfl,hI,he▸h.forget js⟩ fun n a w ⟨x,hx,hIx,hB⟩=>?_
  subst hx
  exact vc_sound ht c c' hf (hr x hIx) hB (fun a w env ⟨x',i1,i2,i3⟩ hB=>⟨μ x',i2,x',rfl,i1,i3▸hB.forget js⟩) (fun i a w env hn hB=>hE i a w env hn hB) (fun a w env hn hB=>hR a w env hn hB)
 | .exit id,code,K,E,env,a,w,Q,hf,hv,h,hN,hE,hR=>by
  cases code with
  | exit id' =>
   simp only [fitC,beq_iff_eq] at hf
   subst hf
   exact wp_exit (hE id' a w env hv h)
  | _=>simp [fitC] at hf
 | .ret,code,K,E,env,a,w,Q,hf,hv,h,hN,hE,hR=>by
  cases code with
  | ret=>exact wp_ret (hR a w env hv h)
  | _=>simp [fitC] at hf
end
end Go.D3
