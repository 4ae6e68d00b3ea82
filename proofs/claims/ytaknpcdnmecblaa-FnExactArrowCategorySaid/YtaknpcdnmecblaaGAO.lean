/- A STATE THAT IS KEPT THROUGH REGIONS AND ROUNDS: the base is moved to the world in hand, and back. Generic. -/
import Derived.Test.YtaknpcdnmecblaaGAK
import Derived.RangeFuncLeaves
import Derived.RangeFuncRecord
import Derived.Below
namespace Go.D3
open Go
set_option maxRecDepth 100000
section
variable[Mode]{cx:Ctx}{ct:Nat->D}{vl:Nat->Value}{fp:Nat->Nat->Prop}{G:Nat->Prop}{w w':World}
theorem Hp.GJ(h:Hp cx ct vl fp G w)(hsz:w'.heap.size=w.heap.size)(hw:∀b,¬G b->w'.heap[b]?=w.heap[b]?)(hos:w'.os=w.os)(htape:w'.tape=w.tape)(hout:bQ w w'):Hp cx ct vl fp G w' where
 ok k:=by
  refine(h.ok k).mono (Q:=fun _=>True) (fun b hb=>⟨⟨by have:=hb.1.1;omega,hb.1.2⟩,hb.2.1,hb.2.2⟩) (fun b hb=>hw b hb.2.1) (fun b hb=>hw b (h.bh k b hb)) (fun _ h=>h) (aV (fun _=>trivial) _) fun v d _ hr=>?_
  refine hr.bu (aV (fun d=>?_) _);cases d<;>try trivial
  case sub k p=>exact fun hp=>⟨hp,(eF (h.ok k) hp.1 fun b hb=>hw b (h.bh k b hb)).1⟩
  case aq k p=>exact fun hp=>⟨hp,(eF (h.ok k) hp fun b hb=>hw b (h.bh k b hb)).2⟩
 bk:=h.bk
 bh:=h.bh
 emp:=h.emp
 lt k b hb:=⟨by have:=(h.lt k b hb).1;omega,(h.lt k b hb).2⟩
 bd b hb:=⟨by have:=(h.bd b hb).1;omega,(h.bd b hb).2⟩
 size:=by have:=h.size;omega
 same b hb hF:=by
  rw[hw b fun hg=>(h.bd b hg).2.elim hF fun h=>by omega];exact h.same b hb hF
 os:=hos.trans h.os
 tape:=htape.trans h.tape
 output:=hout.trans h.output
theorem Hp.ext(h:Hp cx ct vl fp G w)(hx:Ext w w'):Hp cx ct vl fp G w':=(h.grow hx.size hx.same hx.os hx.tape hx.output).release fun _ h=>.inl h
theorem Ext.alloc(w:World)(o:Obj):Ext w (w.alloc o):=⟨by simp,fun b hb=>by simp only[World.alloc];rw[Array.getElem?_push_lt hb,Array.getElem?_eq_getElem hb],rfl,rfl,.of rfl rfl⟩
end
section
variable[Mode]{F:Fence}{n:Nat}{P:Program}{ops:Array Oper}{Q:Exit->Act->World->Prop}{tr pre:List Nat}{nt:Nat}{env:List D}{a:Act}{w:World}{cx:Ctx}
theorem Mq(hF:FW F){t:RT}{id:Nat}{K:List D->Prop}(ht:dI nt tr=true)(hf:me P nt tr pre t ops=true)(hE:eo ops.toList=true)(hnd:ops.toList.all dz=true)(h:Bm cx nt tr env a w)(hv:lO P t K (bF pre ⟨env,0,[]⟩))
  (hQ:∀a' w' env',K env'->fr ops a a'->Bm cx nt tr env' a' w'->Q .normal a' w'):(Code.region id ops true).wpIn F n P Q a w:=by
 obtain⟨hm,hl⟩:=sU (Q:=fun e a' w'=>e=.normal/\∃env',K env'/\Bm cx nt tr env' a' w') ht h (fun a' w' env' hK hB=>⟨rfl,env',hK,hB⟩) t ops hf hv;refine wpIn_region_draw fun tt=>?_
 simp only[Region.schedule,hm,Bool.true_or,if_true]
 exact wq hF (fun o ho=>List.all_eq_true.1 hnd o ho) (fun c a w h=>by cases h.1.1) (fun⟨_,_,h⟩=>by cases h.1.1) (fun a' w' ⟨⟨_,st,hK,hB⟩,_⟩ hfr=>hQ a' w' st hK hfr hB) _ a _ (pH a)
  (hl _ (py hE _ _ _ (by simp) (by unfold ek;exact Nat.le_trans (List.countP_le_length) (by simp))))
end
theorem Bz{F:Fence}{n:Nat}{P:Program}{fn:Func}{ts:Array Value}{R:Ending->World->Prop}:∀(ds:List Nat)(w:World),ds.Nodup->(∀d∈ds,w.heap[d]?=some (.deferred (some []))) ->
  (∀w',w'.heap.size=w.heap.size->(∀b,b ∉ ds->w'.heap[b]?=w.heap[b]?)->w'.os=w.os->w'.tape=w.tape->w'.output=w.output->w'.drawn=w.drawn->LeavesIn F n P fn ts R [] .returning w') ->
  LeavesInM F n P fn ts R (ds.map fun d=>{ target:=.collected d,args:=#[] }) .returning w
 | [],w,_,_,h=>h w rfl (fun _ _=>rfl) rfl rfl rfl rfl
 | d::ds,w,hn,hd,h=>by
  rw[List.nodup_cons] at hn;have hk:=hd d List.mem_cons_self;have hlt:=(Array.getElem?_eq_some_iff.1 hk).1;refine⟨by simp,.inl ⟨d,_,rfl,run_takeDeferred hk,Bz ds _ hn.2 (fun x hx=>?_) fun w' h1 h2 h3 h4 h5 h6=>h w' (by rw[h1];simp) (fun b hb=>?_) h3 h4 h5 h6⟩⟩
  ·rw[World.putObj_heap_other (fun e=>hn.1 (by rw[<-e];exact hx))]
   exact hd x (List.mem_cons_of_mem _ hx)
  ·rw[h2 b fun hh=>hb (List.mem_cons_of_mem _ hh)]
   exact World.putObj_heap_other (fun e=>hb (by rw[e];exact List.mem_cons_self))
end Go.D3
namespace Go.D3
open Go
set_option maxRecDepth 100000
section
variable{fp:Nat->Nat->Prop}{G S:Nat->Prop}{cx:Ctx}{w w':World}
def Mx(fp:Nat->Nat->Prop)(G:Nat->Prop)(b:Nat):Prop:=G b\/∃k,fp k b
theorem JT{b:Nat}(h:Mx fp (fun b=>G b/\¬S b) b):¬ae cx fp G w b:=fun hs=>h.elim (fun h=>hs.2.1 h.1) fun⟨k,hk⟩=>hs.2.2 k hk
structure dD(S M:Nat->Prop)(w:World)(M':Nat->Prop)(w':World):Prop where
 size:w.heap.size<=w'.heap.size
 same:∀b,b<w.heap.size->¬M b->w'.heap[b]?=w.heap[b]?
 stay:∀b,S b->w'.heap[b]?=w.heap[b]?
 new:∀b,M' b->M b\/w.heap.size<=b
theorem dD.refl{M:Nat->Prop}:dD S M w M w:=⟨Nat.le_refl _,fun _ _ _=>rfl,fun _ _=>rfl,fun _ h=>.inl h⟩
theorem dD.trans{M M' M'':Nat->Prop}{w'':World}(h:dD S M w M' w')(h':dD S M' w' M'' w''):dD S M w M'' w'' :=
 ⟨Nat.le_trans h.size h'.size,fun b hb hm=>(h'.same b (Nat.lt_of_lt_of_le hb h.size) fun h1=>(h.new b h1).elim hm fun h2=>by omega).trans (h.same b hb hm),fun b hs=>(h'.stay b hs).trans (h.stay b hs),
  fun b hb=>(h'.new b hb).elim (h.new b) fun h2=>.inr (Nat.le_trans h.size h2)⟩
theorem dD.sub{S' M M':Nat->Prop}(h:dD S M w M' w')(hs:∀b,S' b->S b):dD S' M w M' w':=⟨h.size,h.same,fun b hb=>h.stay b (hs b hb),h.new⟩
theorem dD.put{M M':Nat->Prop}{w'':World}{l:Nat}(h:dD S M w M' w')(hl:M l)(hz:w''.heap.size=w'.heap.size)(he:∀b,b≠l->w''.heap[b]?=w'.heap[b]?):dD (fun b=>S b/\b≠l) M w M' w'' :=
 ⟨by rw[hz];exact h.size,fun b hb hm=>(he b fun e=>hm (e▸hl)).trans (h.same b hb hm),fun b hb=>(he b hb.2).trans (h.stay b hb.1),h.new⟩
end
section
variable[Mode]{cx:Ctx}{ct ct':Nat->D}{vl vl':Nat->Value}{fp fp':Nat->Nat->Prop}{G G':Nat->Prop}{w w':World}{S:Nat->Prop}
abbrev ui(cx:Ctx)(fp:Nat->Nat->Prop)(G:Nat->Prop)(w:World)(S:Nat->Prop)(hg:ck w (ae cx fp G w))(cG:List Deferred):Ctx:=⟨w,Mx fp (fun b=>G b/\¬S b),ae cx fp G w,cx.gv,fun _ hb=>⟨hb.1.1,fun hm=>JT hm hb⟩,hg,cG⟩
theorem Hp.base(h:Hp cx ct vl fp G w)(cG:List Deferred):Hp (ui cx fp G w S h.gl cG) ct vl fp (fun b=>G b/\¬S b) w where
 ok k:=(h.ok k).mono (Q:=fun _=>True) (fun _ hb=>⟨⟨hb.1.1,fun _=>hb⟩,fun hg=>hb.2.1 hg.1,hb.2.2⟩) (fun _ _=>rfl) (fun _ _=>rfl) (fun _ h=>h) (aV (fun _=>trivial) _) fun _ _ _ hr=>hr
 bk:=h.bk
 bh k b hb hg:=h.bh k b hb hg.1
 emp:=h.emp
 lt k b hb:=⟨(h.lt k b hb).1,.inl (.inr ⟨k,hb⟩)⟩
 bd b hb:=⟨(h.bd b hb.1).1,.inl (.inl hb)⟩
 size:=Nat.le_refl _
 same _ _ _:=rfl
 os:=rfl
 tape:=rfl
 output:=.refl _
theorem Hp.back(h:Hp cx ct vl fp G w){cG:List Deferred}(hS:∀b,S b->G b)(h':Hp (ui cx fp G w S h.gl cG) ct' vl' fp' G' w'):Hp cx ct' vl' fp' (fun b=>G' b\/S b) w' where
 ok k:=(h'.ok k).mono (Q:=fun _=>True) (fun b hb=>by
   refine⟨⟨hb.1.1,fun h0=>?_⟩,fun hg=>hg.elim hb.2.1 fun hs=>?_,hb.2.2⟩
   ·exact(hb.1.2 (Nat.lt_of_lt_of_le h0 h.size)).1.2 h0
   ·exact(hb.1.2 (h.bd b (hS b hs)).1).2.1 (hS b hs)) (fun _ _=>rfl) (fun _ _=>rfl) (fun _ h=>h) (aV (fun _=>trivial) _) fun _ _ _ hr=>hr
 bk:=h'.bk
 bh k b hb hg:=hg.elim (h'.bh k b hb) fun hs=>(h'.lt k b hb).2.elim (fun hm=>hm.elim (fun hm=>hm.2 hs) fun⟨j,hj⟩=>h.bh j b hj (hS b hs)) fun hl=>by
  have:=(h.bd b (hS b hs)).1;have hl:w.heap.size<=b:=hl;omega
 emp:=h'.emp
 lt k b hb:=⟨(h'.lt k b hb).1,(h'.lt k b hb).2.elim (fun hm=>hm.elim (fun hm=>(h.bd b hm.1).2) fun⟨j,hj⟩=>(h.lt j b hj).2) fun hl=>.inr (Nat.le_trans h.size hl)⟩
 bd b hb:=hb.elim (fun hb=>⟨(h'.bd b hb).1,(h'.bd b hb).2.elim (fun hm=>hm.elim (fun hm=>(h.bd b hm.1).2) fun⟨j,hj⟩=>(h.lt j b hj).2) fun hl=>.inr (Nat.le_trans h.size hl)⟩) fun hs=>⟨Nat.lt_of_lt_of_le (h.bd b (hS b hs)).1 h'.size,(h.bd b (hS b hs)).2⟩
 size:=Nat.le_trans h.size h'.size
 same b hb hF:=by
  refine(h'.same b (Nat.lt_of_lt_of_le hb h.size) fun hm=>?_).trans (h.same b hb hF);exact hm.elim (fun hm=>(h.bd b hm.1).2.elim hF fun hl=>by omega) fun⟨j,hj⟩=>(h.lt j b hj).2.elim hF fun hl=>by omega
 os:=h'.os.trans h.os
 tape:=h'.tape.trans h.tape
 output:=h'.output.trans h.output
structure Cu(cx:Ctx)(S:Nat->Prop)(tr:List Nat)(env:List D)(ts:Array Value)(M:Nat->Prop)(w:World):Prop where
 ex:∃vl fp G,Hp cx (⟨env,0,[]⟩:St).cont vl fp G w/\(∀(j t:Nat),tr[j]?=some t->ts.getD t undef=vl j)/\(∀k,tr.length<=k->k<1000->vl k=cx.gv k)/\(∀b,S b->G b)/\∀b,M b↔Mx fp G b
section
variable{tr:List Nat}{env env':List D}{ts ts':Array Value}{M:Nat->Prop}{nt:Nat}
theorem Cu.lt(h:Cu cx S tr env ts M w):∀b,M b->b<w.heap.size:=fun b hb=>by
 obtain⟨vl,fp,G,hp,_,_,_,hM⟩:=h.ex;exact((hM b).1 hb).elim (fun hg=>(hp.bd b hg).1) fun⟨k,hk⟩=>(hp.lt k b hk).1
theorem Cu.sm(h:Cu cx S tr env ts M w):∀b,S b->M b:=fun b hb=>by
 obtain⟨vl,fp,G,hp,_,_,hS,hM⟩:=h.ex;exact(hM b).2 (.inl (hS b hb))
theorem Cu.Fj(h:Cu cx S tr env ts M w)(ht:∀k,((nth env k).isObj=false/\nth env' k=.dead)\/(nth env' k=nth env k/\∀t,tr[k]?=some t->ts'.getD t undef=ts.getD t undef)):Cu cx S tr env' ts' M w:=by
 obtain⟨vl,fp,G,hp,htr,hgv,hS,hM⟩:=h.ex
 have key:∀k,(((⟨env,0,[]⟩:St).cont k).isObj=false/\(⟨env',0,[]⟩:St).cont k=.dead)\/((⟨env',0,[]⟩:St).cont k=(⟨env,0,[]⟩:St).cont k/\(match tr[k]? with | some t=>ts'.getD t undef | none=>vl k)=vl k):=fun k=>by
  rw[cP,cP];split
  ·refine(ht k).imp_right fun h1=>⟨h1.1,?_⟩
   cases hk:tr[k]? with
   | none=>rfl
   | some t=>simp only[h1.2 t hk,htr k t hk]
  ·exact .inl ⟨rfl,rfl⟩
 have obS:∀{d:D}{p:Path},d.isObj=false->¬d.c8 p:=fun {d p} h1 h2=>by cases d<;>first | (cases h1;done) | exact h2.elim | exact h2.1.elim
 have obC:∀{d:D}{p:Path},d.isObj=false->¬d.aR p:=fun {d p} h1 h2=>by cases d<;>first | (cases h1;done) | exact h2.elim
 refine⟨fun k=>match tr[k]? with | some t=>ts'.getD t undef | none=>vl k,fp,G,⟨fun k=>?_,hp.bk,hp.bh,fun k hk b hb=>?_,hp.lt,hp.bd,hp.size,hp.same,hp.os,hp.tape,hp.output⟩,fun j t hj=>by simp only[hj],fun k h1 h2=>?_,hS,hM⟩
 ·rcases key k with⟨_,h1⟩ | ⟨h1,h2⟩
  ·rw[h1];exact Pl.dead
  ·rw[h1,h2]
   refine(hp.ok k).mono (Q:=fun _=>True) (fun _ h=>h) (fun _ _=>rfl) (fun _ _=>rfl) (fun _ h=>h) (aV (fun _=>trivial) _) fun v d _ hr=>hr.bu (aV (fun d=>?_) _)
   cases d<;>try trivial
   case sub j p =>
    intro hh;rcases key j with⟨h3,_⟩ | ⟨h3,h4⟩
    ·exact(obS h3 hh).elim
    ·simp only[h3,h4];exact⟨hh,trivial⟩
   case aq j p =>
    intro hh;rcases key j with⟨h3,_⟩ | ⟨h3,h4⟩
    ·exact(obC h3 hh).elim
    ·simp only[h3,h4];exact⟨hh,trivial⟩
 ·rcases key k with⟨h1,_⟩ | ⟨h1,_⟩
  ·exact hp.emp k h1 b hb
  ·rw[h1] at hk;exact hp.emp k hk b hb
 ·have:tr[k]?=none:=List.getElem?_eq_none h1
  simp only[this];exact hgv k h1 h2
theorem Cu.lit(h:Cu cx S tr env ts M w)(j:Nat){t:Nat}{k:IntKind}{n:Int}(hn:k.has n)(htj:tr[j]?=some t)(hd:nth env j=.dead)(hl:env.length<1000)(hlt:tr.length<=env.length)(hts:t<ts.size)(hnd:tr.Nodup):Cu cx S tr (cL env j (.int k n)) (ts.setIfInBounds t (.int k n)) M w:=by
 obtain⟨vl,fp,G,hp,htr,hgv,hS,hM⟩:=h.ex;have hj:j<tr.length:=(List.getElem?_eq_some_iff.1 htj).1;have hcj:(⟨env,0,[]⟩:St).cont j=.dead:=by rw[cP,if_pos (by omega),hd]
 have key:∀i,i≠j->(⟨cL env j (.int k n),0,[]⟩:St).cont i=(⟨env,0,[]⟩:St).cont i:=fun i hi=>by
  rw[cP,cP];split
  ·rw[ln,if_neg (fun h=>hi h.1)]
  ·rfl
 have keyj:(⟨cL env j (.int k n),0,[]⟩:St).cont j=.int k n:=by rw[cP,if_pos (by omega),ln,if_pos ⟨rfl,by omega⟩]
 refine⟨aj vl j (.int k n),fp,G,⟨fun i=>?_,hp.bk,hp.bh,fun i hi b hb=>?_,hp.lt,hp.bd,hp.size,hp.same,hp.os,hp.tape,hp.output⟩,fun i s hi=>?_,fun i h1 h2=>?_,hS,hM⟩
 ·by_cases hij:i=j
  ·subst hij;rw[keyj,aT];exact Pl.rd (.int hn)
  ·rw[key i hij,av _ _ hij]
   refine(hp.ok i).mono (Q:=fun _=>True) (fun _ h=>h) (fun _ _=>rfl) (fun _ _=>rfl) (fun _ h=>h) (aV (fun _=>trivial) _) fun v d _ hr=>hr.bu (aV (fun d=>?_) _)
   cases d<;>try trivial
   case sub a p =>
    intro hh;by_cases ha:a=j
    ·subst ha;rw[hcj] at hh;exact hh.1.elim
    ·rw[key a ha,av _ _ ha];exact⟨hh,rfl⟩
   case aq a p =>
    intro hh;by_cases ha:a=j
    ·subst ha;rw[hcj] at hh;exact hh.elim
    ·rw[key a ha,av _ _ ha];exact⟨hh,rfl⟩
 ·by_cases hij:i=j
  ·subst hij;exact hp.emp i (by rw[hcj];rfl) b hb
  ·exact hp.emp i (by rw[<-key i hij];exact hi) b hb
 ·by_cases hs:s=t
  ·subst hs
   rw[(List.getElem?_inj (List.getElem?_eq_some_iff.1 hi).1 hnd).1 (hi.trans htj.symm),aT,kO _ hts]
  ·rw[getD_set_ne _ (fun e=>hs e.symm),htr i s hi,av _ _ (fun e=>hs (by subst e;rw[hi] at htj;cases htj;rfl))]
 ·rw[av _ _ (by omega)];exact hgv i h1 h2
theorem Cu.rd(h:Cu cx S tr env ts M w){j t:Nat}{d:D}(hj:tr[j]?=some t)(hl:tr.length<1000)(hd:nth env j=d)(h1:d.bC=true)(h2:d.refs cz):Rd w (fun b=>b<w.heap.size/\¬M b) (ts.getD t undef) d:=by
 obtain⟨vl,fp,G,hp,htr,hgv,hS,hM⟩:=h.ex;have:=hp.ok j;rw[cP,if_pos (by have:=(List.getElem?_eq_some_iff.1 hj).1;omega),hd,<-htr j t hj] at this;exact(l5 ((jh h1).1 this) h2).mono (fun b hb=>⟨hb.1.1,fun hm=>((hM b).1 hm).elim hb.2.1 fun⟨k,hk⟩=>hb.2.2 k hk⟩) fun _ _=>rfl
theorem Cu.Ho(h:Cu cx S tr env ts M w):ck w fun b=>b<w.heap.size/\¬M b:=by
 obtain⟨vl,fp,G,hp,htr,hgv,hS,hM⟩:=h.ex;exact hp.gl.mono (fun b hb=>⟨hb.1.1,fun hm=>((hM b).1 hm).elim hb.2.1 fun⟨k,hk⟩=>hb.2.2 k hk⟩) fun _ _=>rfl
theorem Cu.box(h:Cu cx S tr env ts M w){k b:Nat}{l:List D}(hk:tr.length<=k/\k<1000)(hd:nth env k=.box l)(hg:cx.gv k=.pointer (some ⟨b,0,none⟩)):b<w.heap.size/\M b/\(∀j,j<l.length->∃v,w.cell? ⟨b,j,none⟩=some v/\((l.getD j .dead).bC=true->(l.getD j .dead).refs cz->(l.getD j .dead).pc=true->Rd w (fun b=>b<w.heap.size/\¬M b) v (l.getD j .dead))/\∀k' c',cx.gv k'=.pointer (some ⟨c',0,none⟩)->tr.length<=k'->k'<1000->l.getD j .dead=.aq k' [(0,0)]->(∃l',nth env k'=.box l')->v=.pointer (some ⟨c',0,none⟩)):=by
 obtain⟨vl,fp,G,hp,htr,hgv,hS,hM⟩:=h.ex;have h1:=hp.ok k;rw[cP,if_pos hk.2,hd] at h1;obtain⟨h0,b',cs,e,Fs,e1,e2,e3,e4,e5,e6,e7⟩:=h1;rw[hgv k hk.1 hk.2,hg] at e1;cases e1;refine⟨(Array.getElem?_eq_some_iff.1 e2).1,(hM b).2 (.inr ⟨k,e5⟩),fun j hj=>⟨cs.getD j undef,cN e2 (by omega),fun h1 h2 h3=>?_,fun k' c' hg' hk1 hk2 he hbx=>?_⟩⟩
 ·have h4:=e4 j (l.getD j .dead) (by rw[List.getD_eq_getElem?_getD,List.getElem?_eq_getElem hj];rfl)
  have h5:Pl w (ae cx fp G w) (aa w (⟨env,0,[]⟩:St).cont vl) (cs.getD j undef) (l.getD j .dead):=by
   revert h1 h2 h3 h4;generalize l.getD j .dead=d;intro h1 h2 h3 h4;cases d<;>first | exact h4 | (cases h1;done) | (cases h3;done)
  exact(l5 h5 h2).mono (fun b hb=>⟨hb.1.1,fun hm=>((hM b).1 hm).elim hb.2.1 fun⟨k,hk⟩=>hb.2.2 k hk⟩) fun _ _=>rfl
 ·have h4:=e4 j (l.getD j .dead) (by rw[List.getD_eq_getElem?_getD,List.getElem?_eq_getElem hj];rfl)
  rw[he] at h4;have h5:Pl w (ae cx fp G w) (aa w (⟨env,0,[]⟩:St).cont vl) (cs.getD j undef) (.aq k' [(0,0)]):=h4;generalize cs.getD j undef=v at h5;cases h5 with
  | rd h=>cases h
  | ref h =>
   obtain⟨_,ad,ha,rfl⟩:=h;obtain⟨l',hl'⟩:=hbx;rw[cP,if_pos hk2,hl',hgv k' hk1 hk2,hg'] at ha;cases ha;rfl
theorem Cu.aq(h:Cu cx S tr env ts M w){j t k b:Nat}(hj:tr[j]?=some t)(_:tr.length<1000)(hd:nth env j=.aq k [(0,0)])(hk:tr.length<=k/\k<1000)(hx:∃l,nth env k=.box l)(hg:cx.gv k=.pointer (some ⟨b,0,none⟩)):ts.getD t undef=.pointer (some ⟨b,0,none⟩):=by
 obtain⟨vl,fp,G,hp,htr,hgv,hS,hM⟩:=h.ex;have h5:=hp.ok j;rw[cP,if_pos (by have:=(List.getElem?_eq_some_iff.1 hj).1;omega),hd,<-htr j t hj] at h5;have h5:Pl w (ae cx fp G w) (aa w (⟨env,0,[]⟩:St).cont vl) (ts.getD t undef) (.aq k [(0,0)]):=h5;generalize ts.getD t undef=v at h5;cases h5 with
 | rd h=>cases h
 | ref h =>
  obtain⟨_,ad,ha,rfl⟩:=h;obtain⟨l,hl'⟩:=hx;rw[cP,if_pos hk.2,hl',hgv k hk.1 hk.2,hg] at ha;cases ha;rfl
theorem Cu.OZ(h:Cu cx S tr env ts M w):cx.w0.heap.size<=w.heap.size/\(∀b,b<cx.w0.heap.size->¬cx.F0 b->w.heap[b]?=cx.w0.heap[b]?)/\w.os=cx.w0.os/\w.tape=cx.w0.tape/\bQ cx.w0 w/\∀b,S b->cx.F0 b\/cx.w0.heap.size<=b:=by
 obtain⟨vl,fp,G,hp,htr,hgv,hS,hM⟩:=h.ex;exact⟨hp.size,hp.same,hp.os,hp.tape,hp.output,fun b hb=>(hp.bd b (hS b hb)).2⟩
theorem Cu.ext(h:Cu cx S tr env ts M w)(hx:Ext w w'):Cu cx S tr env ts M w':=by
 obtain⟨vl,fp,G,hp,htr,hgv,hS,hM⟩:=h.ex;exact⟨vl,fp,G,hp.ext hx,htr,hgv,hS,hM⟩
theorem Cu.rj(h:Cu cx S tr env ts M w)(hsz:w'.heap.size=w.heap.size)(hw:∀b,¬S b->w'.heap[b]?=w.heap[b]?)(hos:w'.os=w.os)(htape:w'.tape=w.tape)(hout:bQ w w'):Cu cx S tr env ts M w':=by
 obtain⟨vl,fp,G,hp,htr,hgv,hS,hM⟩:=h.ex;exact⟨vl,fp,G,hp.GJ hsz (fun b hb=>hw b fun hs=>hb (hS b hs)) hos htape hout,htr,hgv,hS,hM⟩
theorem Cu.FR{S':Nat->Prop}(h:Cu cx S tr env ts M w)(hx:Ext w w')(hS':∀b,S' b->S b\/(w.heap.size<=b/\b<w'.heap.size)):Cu cx S' tr env ts (fun b=>M b\/(w.heap.size<=b/\b<w'.heap.size)) w':=by
 obtain⟨vl,fp,G,hp,htr,hgv,hS,hM⟩:=h.ex;refine⟨vl,fp,_,hp.grow hx.size hx.same hx.os hx.tape hx.output,htr,hgv,fun b hb=>(hS' b hb).imp_left (hS b),fun b=>?_⟩;rw[hM];unfold Mx;exact⟨fun h=>h.elim (fun h=>h.elim (fun h=>.inl (.inl h)) .inr) fun h=>.inl (.inr h),fun h=>h.elim (fun h=>h.elim (fun h=>.inl (.inl h)) .inr) fun h=>.inl (.inr h)⟩
theorem Cu.less{S':Nat->Prop}(h:Cu cx S tr env ts M w)(hS':∀b,S' b->S b):Cu cx S' tr env ts M w:=by
 obtain⟨vl,fp,G,hp,htr,hgv,hS,hM⟩:=h.ex;exact⟨vl,fp,G,hp,htr,hgv,fun b hb=>hS b (hS' b hb),hM⟩
theorem Cu.bm{a:Act}(h:Cu cx S tr env a.tmps M w)(hsz:a.tmps.size=nt):∃cx',Bm cx' nt tr env a w/\cx'.cG=a.defers/\∀env' a' w',Bm cx' nt tr env' a' w'->∃M',Cu cx S tr env' a'.tmps M' w'/\dD S M w M' w':=by
 obtain⟨vl,fp,G,hp,htr,hgv,hS,hM⟩:=h.ex;refine⟨ui cx fp G w S hp.gl a.defers,⟨⟨vl,fp,_,hp.base a.defers,fun j t hj _=>htr j t hj,fun i t hi _=>by simp at hi,hgv⟩,rfl,fun j hj=>by simp at hj,hsz,rfl⟩,rfl,fun env' a' w' hB=>?_⟩;obtain⟨vl',fp',G',hp',htr',_,hgv'⟩:=hB.ex;have hmx:∀b,Mx fp (fun b=>G b/\¬S b) b->M b:=fun b hb=>(hM b).2 (hb.imp_left And.left)
 refine⟨Mx fp' fun b=>G' b\/S b,⟨vl',fp',_,hp.back hS hp',fun j t hj=>htr' j t hj (by simp),hgv',fun b hb=>.inr hb,fun b=>.rfl⟩,hp'.size,fun b hb hm=>hp'.same b hb fun hx=>hm (hmx b hx),fun b hb=>hp'.same b (hp.bd b (hS b hb)).1 fun hx=>hx.elim (fun hx=>hx.2 hb) fun⟨k,hk⟩=>hp.bh k b hk (hS b hb),fun b hb=>?_⟩;rcases hb with(hb | hb) | ⟨k,hb⟩
 ·exact(hp'.bd b hb).2.imp_left (hmx b)
 ·exact .inl ((hM b).2 (.inl (hS b hb)))
 ·exact(hp'.lt k b hb).2.imp_left (hmx b)
end
section
variable{F:Fence}{n:Nat}{P:Program}{ops:Array Oper}{Q:Exit->Act->World->Prop}{tr:List Nat}{nt:Nat}{env:List D}{a:Act}{M:Nat->Prop}
theorem nK(hF:FW F)(pre:List Nat)(l:List aO)(post:List (Nat×Nat)){id:Nat}{K:List D->Prop}(h:Cu cx S tr env a.tmps M w)(hsz:a.tmps.size=nt)(ht:dI nt tr=true)(hf:ed P nt tr ops false pre l post=true)(hnd:ops.toList.all dz=true)
  (hv:bA P (fun st=>K (fin post st)) l (bF pre ⟨env,0,[]⟩))
  (hQ:∀a' w' env' M',K env'->fr ops a a'->a'.defers=a.defers->Cu cx S tr env' a'.tmps M' w'->dD S M w M' w'->Q .normal a' w'):(Code.region id ops false).wpIn F n P Q a w:=by
 obtain⟨cx',h1,h2,h3⟩:=h.bm hsz;refine Df hF ht hf hnd h1 hv fun a' w' st hK hfr hB=>?_
 obtain⟨M',h4,h5⟩:=h3 _ _ _ hB;exact hQ a' w' _ M' hK hfr (hB.defers.trans h2) h4 h5
theorem G5(hF:FW F)(pre:List Nat){t:RT}{id:Nat}{K:List D->Prop}(h:Cu cx S tr env a.tmps M w)(hsz:a.tmps.size=nt)(ht:dI nt tr=true)(hf:me P nt tr pre t ops=true)(hE:eo ops.toList=true)(hnd:ops.toList.all dz=true)
  (hv:lO P t K (bF pre ⟨env,0,[]⟩))
  (hQ:∀a' w' env' M',K env'->fr ops a a'->a'.defers=a.defers->Cu cx S tr env' a'.tmps M' w'->dD S M w M' w'->Q .normal a' w'):(Code.region id ops true).wpIn F n P Q a w:=by
 obtain⟨cx',h1,h2,h3⟩:=h.bm hsz;refine Mq hF ht hf hE hnd h1 hv fun a' w' env' hK hfr hB=>?_
 obtain⟨M',h4,h5⟩:=h3 _ _ _ hB;exact hQ a' w' _ M' hK hfr (hB.defers.trans h2) h4 h5
end
end
end Go.D3
