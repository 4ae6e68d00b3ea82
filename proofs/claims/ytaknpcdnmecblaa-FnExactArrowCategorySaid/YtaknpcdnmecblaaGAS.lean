/- A FUNCTION WITH A LOCAL OBJECT THAT IS ONLY READ FROM SOME PLACE ON. Generic. -/
import Derived.Test.YtaknpcdnmecblaaHG
namespace Go.D3
open Go
theorem Ni[Mode]{P:Program}{f:FuncId}{fn:Func}{c:C}{tr:List Nat}{as:List Arg}{env:List D}{res:D}{rs:List RS}(hf:P.funcs[f]?=some fn)(hok:jE P fn tr c as.length rs=true)(ha:lZ as=true)(hl:as.length<500)
  (henv:env=cY tr as) (hvw:∀a∈as,∃x,a=.v x) (hw:∀(code:Code)(cx:Ctx)(a:Act)(w:World)(Q:Exit->Act->World->Prop),bI P fn.ntmps tr code c=true->dI fn.ntmps tr=true->(∀b,¬cx.F0 b)->Bm cx fn.ntmps tr env a w->(∀a w env,out rs res tr.length as env->Bm cx fn.ntmps tr env a w->Q .normal a w)->(∀a w env,out rs res tr.length as env->Bm cx fn.ntmps tr env a w->Q .ret a w)->code.wp P Q a w):aD P f as res:=by
 subst henv;simp only[jE,Bool.and_eq_true,decide_eq_true_eq] at hok;obtain⟨⟨⟨hfit,htr⟩,hna⟩,hres⟩:=hok;cases hb:fn.body with
 | none=>rw[hb] at hfit;cases hfit
 | some code =>
 rw[hb] at hfit;simp only at hfit;intro w A vs Fs hgl hA hvs hpre hFd hFs;have htr':=htr;simp only[dI,Bool.and_eq_true,List.all_eq_true,decide_eq_true_eq] at htr';obtain⟨⟨hnd,htlt⟩,hfew⟩:=htr';let tm:Array Value:=vs++Array.replicate (fn.ntmps-vs.size) undef;have htm:tm.size=fn.ntmps:=by simp only[tm,Array.size_append,Array.size_replicate];omega
 have hgetv:∀i,i<as.length->tm.getD i undef=vs.getD i undef:=by
  intro i hi;simp only[tm,Array.getD_eq_getD_getElem?];rw[Array.getElem?_append_left (by omega)]
 let cx:Ctx:=⟨w,fun b=>∃j,Fs j b,A,fun k=>vs.getD (k-tr.length) undef,fun b hb=>⟨hA b hb,fun⟨j,hj⟩=>(hFs j b hj).2.1 hb⟩,hgl,[]⟩;let vl:Nat->Value:=fun k=>match tr[k]? with | some t=>tm.getD t undef | none=>vs.getD (k-tr.length) undef
 let fp:Nat->Nat->Prop:=fun k b=>(∃t x,tr[k]?=some t/\as[t]?=some (.own x)/\Fs t b)\/∃t x y,k=tr.length+t/\as[t]?=some (.io x y)/\Fs t b
 have hfpF:∀k b,fp k b->∃j,Fs j b:=by
  rintro k b (⟨t,x,_,_,h⟩ | ⟨t,x,y,_,_,h⟩)<;>exact⟨t,h⟩
 have hgv:∀k,tr.length<=k->vl k=vs.getD (k-tr.length) undef:=fun k hk=>by
  show(match tr[k]? with | some t=>tm.getD t undef | none=>_)=_;rw[List.getElem?_eq_none hk]
 have hslot:∀k t,tr[k]?=some t->t<as.length->vl k=vs.getD t undef:=fun k t hk ht=>by
  show(match tr[k]? with | some t=>tm.getD t undef | none=>_)=_;rw[hk];exact hgetv t ht
 have hstA:∀b,A b->ae cx fp (fun _=>False) w b:=fun b hb=>⟨⟨hA b hb,fun _=>hb⟩,fun h=>h,fun k hk=>by
  obtain⟨j,hj⟩:=hfpF k b hk
  exact(hFs j b hj).2.1 hb⟩
 have hinj:=pW hnd
 have h0:Bm cx fn.ntmps tr (cY tr as) { tmps:=tm,defers:=[] } w:=by
  refine⟨⟨vl,fp,fun _=>False,?_,fun k t hk _=>by simp only[vl,hk],fun i t hi _=>by simp at hi,fun k h1 _=>hgv k h1⟩,rfl,fun j hj=>by simp at hj,htm,rfl⟩;refine⟨fun k=>?_,fun i j hij b hi hj=>?_,fun _ _ _ h=>h,fun k hk b hb=>?_,fun k b hb=>?_,fun _ h=>h.elim,Nat.le_refl _,fun _ _ _=>rfl,rfl,rfl,.refl _⟩
  ·rcases Bf (tr:=tr) (as:=as) k with hc | ⟨t,a,h1,h2,hc⟩ | ⟨t,x,y,rfl,h2,hc⟩
   ·rw[hc];exact Pl.dead
   ·rw[hc]
    have hlt:=(List.getElem?_eq_some_iff.1 h2).1;have hp:=hpre t a h2;rw[hslot k t h1 hlt];have hao:=pd ha h2;cases a with
    | v x =>
     have hr:=hp.1.mono hstA (fun _ _=>rfl);show az _ _ _ _ _ x;have:x.bC=true:=hao;cases x<;>first | exact Pl.rd hr | cases this
    | own x =>
     show af w _ _ x _;exact af.mono (F:=Fs t) hp hstA (fun _ _=>rfl) (fun _ _=>rfl) fun b hb=>.inl ⟨t,x,h1,h2,hb⟩
    | io x y =>
     have hcg:=rO (tr:=tr) (by omega) h2;have hvg:vl (tr.length+t)=vs.getD t undef:=by rw[hgv _ (by omega),show tr.length+t-tr.length=t by omega]
     have hp:az w A (fun _ _=>False) (vs.getD t undef) (Fs t) x:=hp
     have hcont:az w A (aa w (⟨cY tr as,0,[]⟩:St).cont vl) (vl (tr.length+t)) (Fs t) ((⟨cY tr as,0,[]⟩:St).cont (tr.length+t)):=by
      rw[hcg,hvg];exact hp.mono (Q:=fun _=>True) (fun _ h=>h) (fun _ _=>rfl) (fun _ _=>rfl) (fun _ h=>h) (aV (fun _=>trivial) _) fun v d _ h=>h.elim
     have hov:=jY hcont;rw[hcg,hvg] at hov
     have hkc:∀g:Nat,(bB g x).bC=true:=by
      intro g;cases x with
      | box l=>rfl
      | o z =>
       have hz:(cw 0 [] z).bC=true:=hao;exact AJ hz g
      | _=>cases hao
     have hgate:(bB (tr.length+t) x).gate=true:=by
      have:=hkc (tr.length+t);generalize bB (tr.length+t) x=z at this;cases z<;>first | rfl | cases this
     have hcore:(bB (tr.length+t) x).core=bB (tr.length+t) x:=by
      have:=hkc (tr.length+t);generalize bB (tr.length+t) x=z at this;cases z<;>first | rfl | cases this
     have hpl:=hov.1 hgate;rw[hcore] at hpl;have hpl:=hpl.mono (Q:=fun _=>True) hstA (fun _ _=>rfl) (aV (fun _=>trivial) _) fun v d _ h=>h
     show az _ _ _ _ _ (bB (tr.length+t) x);have:=hkc (tr.length+t);generalize bB (tr.length+t) x=z at this hpl;cases z<;>first | exact hpl | cases this
   ·rw[hc,hgv _ (by omega),show tr.length+t-tr.length=t by omega]
    have hp:az w A (fun _ _=>False) (vs.getD t undef) (Fs t) x:=hpre t _ h2;exact hp.mono (Q:=fun _=>True) hstA (fun _ _=>rfl) (fun _ _=>rfl) (fun b hb=>.inr ⟨t,x,y,rfl,h2,hb⟩) (aV (fun _=>trivial) _) fun v d _ h=>h.elim
  ·have key:∃t,Fs t b/\((tr[i]?=some t/\∃x,as[t]?=some (.own x))\/(i=tr.length+t/\∃x y,as[t]?=some (.io x y))):=by
    rcases hi with⟨t,x,q1,q2,q3⟩ | ⟨t,x,y,q1,q2,q3⟩
    ·exact⟨t,q3,.inl ⟨q1,x,q2⟩⟩
    ·exact⟨t,q3,.inr ⟨q1,x,y,q2⟩⟩
   have key':∃t,Fs t b/\((tr[j]?=some t/\∃x,as[t]?=some (.own x))\/(j=tr.length+t/\∃x y,as[t]?=some (.io x y))):=by
    rcases hj with⟨t,x,q1,q2,q3⟩ | ⟨t,x,y,q1,q2,q3⟩
    ·exact⟨t,q3,.inl ⟨q1,x,q2⟩⟩
    ·exact⟨t,q3,.inr ⟨q1,x,y,q2⟩⟩
   obtain⟨t,k1,k2⟩:=key;obtain⟨t',k3,k4⟩:=key';have htt:t=t':=Classical.byContradiction fun hne=>hFd t t' b hne k1 k3
   subst htt;rcases k2 with⟨q1,x,q2⟩ | ⟨q1,x,y,q2⟩<;>rcases k4 with⟨q3,x',q4⟩ | ⟨q3,x',y',q4⟩
   ·exact hij (hinj _ _ _ q1 q3)
   ·rw[q2] at q4;cases q4
   ·rw[q2] at q4;cases q4
   ·omega
  ·rcases hb with⟨t,x,q1,q2,q3⟩ | ⟨t,x,y,rfl,q2,q3⟩
   ·rw[Bg (by omega) q1 q2] at hk;cases hk
   ·rw[rO (by omega) q2] at hk
    have hao:=pd ha q2;cases x with
    | box l=>cases hk
    | o z=>cases hk
    | _=>cases hao
  ·obtain⟨j,hj⟩:=hfpF k b hb
   exact⟨(hFs j b hj).1,.inl ⟨j,hj⟩⟩
 have fin:∀a' w' env,out rs res tr.length as env->Bm cx fn.ntmps tr env a' w' ->
   a'.defers=[]/\∃v,(results fn a'.tmps).run P w'=.ok v w'/\∃(u:Value)(F:Nat->Prop)(Fs':Nat->Nat->Prop),Ending.returned v=.returned u/\w.heap.size<=w'.heap.size /\
    af w' (fun b=>A b\/(w.heap.size<=b/\b<w'.heap.size/\¬F b/\∀j,¬Fs' j b)) u res F /\
    (∀(i:Nat)(x:Arg),as[i]?=some x->x.post w' (fun b=>A b\/(w.heap.size<=b/\b<w'.heap.size/\¬F b/\∀j,¬Fs' j b)) (vs.getD i undef) (Fs' i)) /\
    (∀b,F b->b<w'.heap.size/\(w.heap.size<=b\/∃j,Fs j b)/\∀j,¬Fs' j b)/\(∀j b,Fs' j b->b<w'.heap.size/\(w.heap.size<=b\/∃j,Fs j b)/\j<as.length)/\(∀i j b,i≠j->Fs' i b->¬Fs' j b) /\
    (∀b,b<w.heap.size->(∀j,¬Fs j b)->w'.heap[b]?=w.heap[b]?)/\w'.os=w.os/\w'.tape=w.tape/\bQ w w':=by
  intro a' w' env ho hB;unfold out at ho;cases cX:gw ⟨env,0,[]⟩ rs with
  | none=>rw[cX] at ho;exact ho.elim
  | some p =>
  rw[cX] at ho;obtain⟨hs,hab⟩:=ho;obtain⟨vl',fp',G',hp,htr2,_,hgh⟩:=hB.ex;obtain⟨us,hrun,hlen,hpl⟩:=sH (P:=P) hp (fun j t hj=>htr2 j t hj (by simp)) fn.results.toList rs hres cX hs;obtain⟨l',st',fp2,G2,Ls,⟨hretd,hgp⟩,htk,hll,hown,hLd,_⟩:=gE (A:=ae cx fp' G' w') _ hab hp hB.wf (fun _ h=>h) hpl;have hrun':=wT hrun;let F:Nat->Prop:=fun b=>∃j,Ls j b
  let Fs':Nat->Nat->Prop:=fun t b=>(∃x y,as[t]?=some (.io x y))/\fp2 (tr.length+t) b
  have aI:∀b,ae cx fp2 G2 w' b->A b\/(w.heap.size<=b/\b<w'.heap.size/\¬F b/\∀j,¬Fs' j b):=by
   rintro b ⟨⟨q1,q2⟩,q3,q4⟩;by_cases hbo:b<w.heap.size
   ·exact .inl (q2 hbo)
   ·exact .inr ⟨by omega,q1,fun hF=>q3 (htk.hF b hF).1,fun j hj=>q4 _ hj.2⟩
  have hownR:af w' (ae cx fp2 G2 w') (lC us) res F:=by
   rw[<-hretd];have hul:us.length=l'.length:=by rw[hlen,hll]
   match us,l',hul,hown,hLd with
   | [],[],_,_,_=>exact af.au (fun _ _=>False) rfl (fun j x hx=>by simp at hx) (fun _ _ h=>h.elim) (fun _ _ _ _ h=>h.elim)
   | [v],[x],_,hown,_ =>
    have:=(hown 0 x rfl).1;exact this.mono (fun _ h=>h) (fun _ _=>rfl) (fun _ _=>rfl) fun b hb=>⟨0,hb⟩
   | a::b::r,x::y::l,hul,hown,hLd =>
    refine af.au (fun j b=>Ls j b) (by simpa using hul) (fun j z hz=>(hown j z hz).1) (fun j b hb=>⟨j,hb⟩) (fun i j b hij hi hj=>hLd i j b hij hi hj)
  refine⟨hB.defers,_,hrun',_,F,Fs',rfl,htk.hp.size,hownR.mono aI (fun _ _=>rfl) (fun _ _=>rfl) fun _ h=>h,fun i x hx=>?_,fun b hb=>?_,fun j b hb=>?_,fun i j b hij hi hj=>?_,fun b hb hn=>htk.hp.same b hb fun⟨j,hj⟩=>hn j hj,htk.hp.os,htk.hp.tape,htk.hp.output⟩
  ·cases x with
   | io x y =>
    obtain⟨g1,g2⟩:=u5 hgp hx;have hlt:=(List.getElem?_eq_some_iff.1 hx).1;have hc:=htk.hp.ok (tr.length+i);rw[g1,hgh _ (by omega) (by omega)] at hc;have hv:cx.gv (tr.length+i)=vs.getD i undef:=by show vs.getD (tr.length+i-tr.length) undef=_;rw[show tr.length+i-tr.length=i by omega]
    rw[hv] at hc;exact(hc.bare g2).mono (Q:=fun _=>True) aI (fun _ _=>rfl) (fun _ _=>rfl) (fun b hb=>⟨⟨x,y,hx⟩,hb⟩) (aV (fun _=>trivial) _) fun _ _ _ h=>h
   | v x=>exact fun b hb=>by obtain⟨⟨x',y',h⟩,_⟩:=hb;rw[hx] at h;cases h
   | own x=>exact fun b hb=>by obtain⟨⟨x',y',h⟩,_⟩:=hb;rw[hx] at h;cases h
  ·have q:=htk.hF b hb
   obtain⟨q1,q2⟩:=htk.hp.bd b q.1;exact⟨q1,q2.symm,fun j hj=>htk.hp.bh _ b hj.2 q.1⟩
  ·obtain⟨⟨x,y,hxy⟩,hb⟩:=hb
   obtain⟨q1,q2⟩:=htk.hp.lt _ b hb;exact⟨q1,q2.symm,(List.getElem?_eq_some_iff.1 hxy).1⟩
  ·exact htk.hp.bk _ _ (by omega) b hi.2 hj.2
 refine calls_of_wp hf hb ?_;refine hw code cx _ _ _ hfit htr (fun b ⟨j,hj⟩=>?_) h0 (fun a w env h1 h2=>fin a w env h1 h2) (fun a w env h1 h2=>fin a w env h1 h2);have hlt:=(hFs j b hj).2.2;obtain⟨x,hx⟩:=hvw as[j] (List.getElem_mem hlt);exact(hpre j (.v x) (by rw[<-hx];exact List.getElem?_eq_getElem hlt)).2 b hj
theorem Dd{Q:D->Prop}:∀{l:List D}(k:Nat),bD Q l->(nth l k).refs Q
 | [],_,_=>trivial
 | _::_,0,h=>h.1
 | _::_,k+1,h=>Dd k h.2
theorem uW{P:Program}{nt:Nat}{tr:List Nat}{code:Code}{x y:C}(h:bI P nt tr code (.seq x y)=true):∃p q,code=.seq p q/\bI P nt tr p x=true/\bI P nt tr q y=true:=by
 unfold bI at h;split at h<;>try(first | (cases h;done) | contradiction)
 rename_i heq;cases heq;rename_i p q;simp only[Bool.and_eq_true] at h;exact⟨p,q,rfl,h.1,h.2⟩
section
variable[Mode]{P:Program}{cx:Ctx}{nt:Nat}{tr:List Nat}{env:List D}{a:Act}{w:World}
def uZ:D->Option D
 | .o x=>some x
 | .int k n=>some (.int k n)
 | _=>none
theorem Bm.freeze(h:Bm cx nt tr env a w)(hF:∀b,¬cx.F0 b){j:Nat}{l l':List D}(hj:j<1000)(hd:nth env j=.box l)(hlt:j<env.length)(hm:l.map uZ=l'.map some)(hr:bD (bO j) env):Bm cx nt tr (cL env j (.ptr l')) a w:=by
 obtain⟨vl,fp,G,hp,htr,htm,hgh⟩:=h.ex;have hcj:(⟨env,0,[]⟩:St).cont j=.box l:=by rw[cP,if_pos hj,hd]
 have key:∀i,i≠j->(⟨cL env j (.ptr l'),0,[]⟩:St).cont i=(⟨env,0,[]⟩:St).cont i:=fun i hi=>by
  rw[cP,cP];split
  ·rw[ln,if_neg (fun h=>hi h.1)]
  ·rfl
 have keyj:(⟨cL env j (.ptr l'),0,[]⟩:St).cont j=.ptr l':=by rw[cP,if_pos hj,ln,if_pos ⟨rfl,hlt⟩]
 have aI:∀b,ae cx fp G w b->ae cx (fun k b=>k≠j/\fp k b) G w b:=fun b hb=>⟨hb.1,hb.2.1,fun k hk=>hb.2.2 k hk.2⟩
 have hjs:∀b,fp j b->ae cx (fun k b=>k≠j/\fp k b) G w b:=fun b hb=>by
  have h2:=(hp.lt j b hb).2.resolve_left (hF b);exact⟨⟨(hp.lt j b hb).1,fun hh=>by omega⟩,hp.bh j b hb,fun k hk=>hp.bk j k (fun e=>hk.1 e.symm) b hb hk.2⟩
 refine⟨⟨vl,fun k b=>k≠j/\fp k b,G,⟨fun k=>?_,fun i k hik b hi hk=>hp.bk i k hik b hi.2 hk.2,fun k b hb=>hp.bh k b hb.2,fun k hk b hb=>?_,fun k b hb=>hp.lt k b hb.2,hp.bd,hp.size,hp.same,hp.os,hp.tape,hp.output⟩,htr,htm,hgh⟩,rfl,fun k hk=>by simp at hk,h.size,h.defers⟩
 ·by_cases hk:k=j
  ·subst hk
   rw[keyj];have h1:=hp.ok k;rw[hcj] at h1;obtain⟨h0,b,cs,e,Fs,e1,e2,e3,e4,e5,e6,e7⟩:=h1;rw[e1]
   have hlen:l'.length=l.length:=by
    have:=congrArg List.length hm;simpa using this.symm
   refine Pl.rd (.ptr (hjs b e5) (fun i=>cs.getD i undef) (fun i x hi=>?_) fun i x hi=>?_)
   ·rw[Nat.zero_add]
    exact cN e2 (by rw[e3,<-hlen];exact(List.getElem?_eq_some_iff.1 hi).1)
   ·have h2:(l.map uZ)[i]?=some (some x):=by rw[hm,List.getElem?_map,hi];rfl
    rw[List.getElem?_map,Option.map_eq_some_iff] at h2;obtain⟨c',hc',hx⟩:=h2;have h3:=e4 i c' hc';cases c'<;>simp only[uZ] at hx<;>try(cases hx;done)
    case int k n =>
     cases hx;exact(l5 h3 trivial).mono aI fun _ _=>rfl
    case o y =>
     cases hx;have h3:af w (ae cx fp G w) (cs.getD i undef) x (Fs i):=h3;exact h3.rd aI fun b' hb'=>hjs b' (e6 i b' hb').2
  ·rw[key k hk]
   have hrk:((⟨env,0,[]⟩:St).cont k).refs (bO j):=by
    rw[cP];split
    ·exact Dd k hr
    ·trivial
   refine(hp.ok k).mono aI (fun _ _=>rfl) (fun _ _=>rfl) (fun b hb=>⟨hk,hb⟩) hrk fun v d hq hr=>hr.bu (cn (fun d hd=>?_) hq)
   cases d<;>try trivial
   case sub i p=>exact fun hh=>⟨by rw[key i hd];exact hh,by rw[key i hd]⟩
   case aq i p=>exact fun hh=>⟨by rw[key i hd];exact hh,by rw[key i hd]⟩
 ·by_cases hkj:k=j
  ·exact hb.1 hkj
  ·rw[key k hkj] at hk;exact hp.emp k hk b hb.2
theorem OU(ht:dI nt tr=true){A0 A1 A3 R:C}{code:Code}{K O:List D->Prop}{E:Ex}{Q:Exit->Act->World->Prop}(hfit:bI P nt tr code (.seq A0 (.seq A1 (.seq A3 R)))=true)(hv:bz P (.seq A0 (.seq A1 A3)) K E env)(hB:Bm cx nt tr env a w)
  (hmid:∀a w env,K env->Bm cx nt tr env a w->∃env',Bm cx nt tr env' a w/\bz P R O E env') (hN:∀a w env,O env->Bm cx nt tr env a w->Q .normal a w) (hE:∀i a w env,E.ex i env->Bm cx nt tr env a w->Q (.exit i) a w) (hR:∀a w env,E.ret env->Bm cx nt tr env a w->Q .ret a w):code.wp P Q a w:=by
 obtain⟨p0,q0,rfl,f0,g0⟩:=uW hfit;obtain⟨p1,q1,rfl,f1,g1⟩:=uW g0;obtain⟨p2,q2,rfl,f2,g2⟩:=uW g1;refine wp_seq (eG ht A0 p0 f0 hv hB (fun a w env hK hB=>?_) hE hR);refine wp_seq (eG ht A1 p1 f1 hK hB (fun a w env hK hB=>?_) hE hR);refine wp_seq (eG ht A3 p2 f2 hK hB (fun a w env hK hB=>?_) hE hR);obtain⟨env',hB',hv'⟩:=hmid a w env hK hB;exact eG ht R q2 g2 hv' hB' hN hE hR
end
end Go.D3
