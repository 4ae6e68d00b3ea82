/- CONTRACTS: what the good part of a journal tells, the program's side: walked, for a pointer stands in a tuple. -/
import Derived.Test.YtpnchponfnbmiaaGreatDoorGBD
import Derived.Test.YtpnchponfnbmiaaGreatDoorGBF
namespace Go.D3
open Go Proofs
set_option maxRecDepth 100000
set_option maxHeartbeats 4000000
def Hid(p:Prop):Prop:=p
theorem Zy{P:Program}{r0 r1 r2 r3 rest:Code}{Q:Exit->Act->World->Prop}{a:Act}{w:World}(h:∀(X:Code)(Y:Exit->Act->World->Prop),Hid (X=rest/\Y=Q)->(Code.seq r0 (.seq r1 (.seq r2 (.seq r3 X)))).wp P Y a w):(Code.seq r0 (.seq r1 (.seq r2 (.seq r3 rest)))).wp P Q a w:=h rest Q ⟨rfl,rfl⟩
theorem abj(w:World):W3 w (((w.alloc (Obj.cells #[Value.pointer (some { block:=w.heap.size+1,off:=0 })] 112)).alloc (Obj.cells #[.int .i64 0,.slice none 0 0,.slice none 0 0,.slice none 0 0,.slice none 0 0,.slice none 0 0,.slice none 0 0,.int .i64 0] 118)).alloc (Obj.cells #[Value.int IntKind.i64 0] 3)):=by
 have hs:∀(x:World)(ob:Obj),(x.alloc ob).heap=x.heap.push ob:=fun _ _=>rfl
 refine⟨by simp[hs],?_,?_,?_,fun b hb=>?_,rfl,rfl,rfl⟩
 ·simp only[hs,Array.getElem?_push,Array.size_push]
  rw[if_neg (by omega),if_neg (by omega),if_pos trivial];rfl
 ·simp only[hs,Array.getElem?_push,Array.size_push]
  rw[if_neg (by omega),if_pos trivial];rfl
 ·simp only[hs,Array.getElem?_push,Array.size_push]
  rw[if_pos trivial]
 ·simp only[hs,Array.getElem?_push,Array.size_push]
  rw[if_neg (by omega),if_neg (by omega),if_neg (by omega)]
theorem WU{v:Value}{w:World}{A:Nat->Prop}{t:List UInt8}{R:Ending->World->Prop}{O:List D->Prop}{c:C}(hA:∀b,A b->b<w.heap.size)(hg:fb w A)(hv:Rd w A v (.str t))
  (hfit:cw Tryz.prog 77 w4 (wX 4 (Tryz.f106.body.getD .skip)) c=true) (hvc:bA Tryz.prog c (fun _=>False) ⟨fun _ _=>False,O⟩ (lg t))
  (hO:∀a w' env,O env->Bm (nA v w A hA hg) 77 w4 env a w'->Leaves Tryz.prog Tryz.f106 a.tmps R a.defers .returning w'):Calls Tryz.prog 106 #[v] w R:=by
 have h1:=Ot;have h2:=On;have h3:=R5;have h4:∀t d o p,World.cell? { heap:=(w.alloc (Obj.cells #[Value.pointer none] 112)).heap.push (Obj.cells #[.int .i64 0,.slice none 0 0,.slice none 0 0,.slice none 0 0,.slice none 0 0,.slice none 0 0,.slice none 0 0,.int .i64 0] 118),tape:=t,drawn:=d,os:=o,output:=p } { block:=w.heap.size,off:=0 }=some (Value.pointer none):=fun _ _ _ _=>aaU w
 have h5:∀t d o p,World.frozen? { heap:=(w.alloc (Obj.cells #[Value.pointer none] 112)).heap.push (Obj.cells #[.int .i64 0,.slice none 0 0,.slice none 0 0,.slice none 0 0,.slice none 0 0,.slice none 0 0,.slice none 0 0,.int .i64 0] 118),tape:=t,drawn:=d,os:=o,output:=p } { block:=w.heap.size,off:=0 }=false:=fun _ _ _ _=>aaV w
 have hb:=fun(W:World)(hW:W3 w W)(T:Array Value)=>Ol (hA:=hA) (hg:=hg) (T:=T) hW hv
 have key:Hid (∀(W:World)(T:Array Value)(ds:List Deferred),W3 w W->ds=(nA v w A hA hg).sA->T.size=77->T.getD 0 undef=v->T.getD 2 undef=pB w.heap.size->T.getD 3 undef=.bool false->T.getD 4 undef=pB (w.heap.size+2)->T.getD 5 undef=undef->T.getD 6 undef=undef->T.getD 7 undef=undef->T.getD 8 undef=undef->T.getD 9 undef=undef ->
   (wX 4 (Tryz.f106.body.getD .skip)).wp Tryz.prog (bodyPostD Tryz.prog Tryz.f106 R) { tmps:=T,defers:=ds } W):=by
  rintro W T _ hW rfl k0 k1 k2 k3 k4 k5 k6 k7 k8 k9;exact ij (by decide +kernel) c _ hfit hvc (hb W hW T k0 k1 k2 k3 k4 k5 k6 k7 k8 k9) (fun _ _ _ h=>h.elim) (fun _ _ _ _ h=>h.elim) fun a w' env h1 h2=>hO a w' env h1 h2
 clear hb hvc hfit hO hv
 go_enter_defers Tryz.func106,Tryz.ntmps106
 refine Zy fun X Y hX=>?_
 go_wp2
 obtain⟨rfl,rfl⟩:=hX;exact key _ _ _ (abj w) rfl rfl rfl rfl rfl rfl rfl rfl rfl rfl rfl
def xl(t:List UInt8)(rc:D)(gs:List D):Prop :=
 gs=[]/\match de t with
  | none=>∃(s:aa)(g:Int),rc=.o (.al [.ptr (Gw s [] [] g),.bool false])
  | some p=>rc=.o (.al [.ptr (mc p.1 p.2.dt p.2.tx p.2.gd),.bool true])
theorem X3(t:List UInt8)(ht:t.length<=1048576):bK Tryz.prog 106 [.str t] [] (xl t):=by
 refine⟨by decide +kernel,fun w A vs gv Fs hg hA hn hpre hgpre hgemp hFd hFs=>?_⟩
 have hvs:vs=#[vs.getD 0 undef]:=by
  match vs,hn with
  | ⟨[x]⟩,_=>rfl
 have hv:Rd w A (vs.getD 0 undef) (.str t):=lV (hpre 0 _ rfl) trivial;rw[hvs]
 have fin:∀{rc:D}{b:Bool}{L:List D}{e:Ending}{w2:World},rc=.o (.al [.ptr L,.bool b])->xl t rc []->FI w A b L e w2->∃(rc:D)(gs':List D)(v:Value)(F:Nat->Prop)(gv':Nat->Value)(Fs':Nat->Nat->Prop),xl t rc gs'/\e=.returned v/\w.heap.size<=w2.heap.size /\
   aI w2 (fun b=>A b\/(w.heap.size<=b/\b<w2.heap.size/\¬F b/\∀j,¬Fs' j b)) (af w2 (nth gs') gv') v F rc/\(rc.isObj=false->∀b,¬F b) /\
   (∀k,aI w2 (fun b=>A b\/(w.heap.size<=b/\b<w2.heap.size/\¬F b/\∀j,¬Fs' j b)) (af w2 (nth gs') gv') (gv' k) (Fs' k) (nth gs' k))/\(∀k,(nth gs' k).isObj=false->∀b,¬Fs' k b) /\
   (∀k,nth [] k≠.dead->gv' k=gv k) /\
   (∀b,F b->b<w2.heap.size/\(w.heap.size<=b\/∃j,Fs j b)/\∀j,¬Fs' j b)/\(∀j b,Fs' j b->b<w2.heap.size/\(w.heap.size<=b\/∃j,Fs j b))/\(∀i j b,i≠j->Fs' i b->¬Fs' j b) /\
   (∀b,b<w.heap.size->(∀j,¬Fs j b)->w2.heap[b]?=w.heap[b]?)/\w2.os=w.os/\w2.tape=w.tape/\cJ w w2:=by
  rintro rc b L e w2 rfl hQ ⟨v,F,rfl,hs,hown,hF,hsame,hos,htape,hout⟩;refine⟨_,[],v,F,gv,fun _ _=>False,hQ,rfl,hs,?_,(fun h=>by cases h),fun k=>Pl.dead,fun _ _ _ h=>h,fun _ _=>rfl,fun b hb=>⟨(hF b hb).1,.inl (hF b hb).2,fun _ h=>h⟩,fun _ _ h=>h.elim,fun _ _ _ _ h=>h.elim,fun b hb _=>hsame b hb,hos,htape,rq hout⟩;refine hown.mono (fun x hx=>?_) (fun _ _=>rfl) (fun _ _=>rfl) (fun _ h=>h);exact hx.imp_right fun h=>⟨h.1,h.2.1,h.2.2,fun _ h=>h⟩
 refine WU hA hg hv Ui (abc t ht) fun a w' env ho hB=>?_
 unfold tB at ho;cases hr:de t with
 | none =>
  rw[hr] at ho;obtain⟨s,n,x,y,z,u,v,rfl⟩:=ho;exact I9 hB fun e w2 h=>fin rfl ⟨rfl,by rw[hr];exact⟨_,_,rfl⟩⟩ h
 | some p =>
  rw[hr] at ho;obtain⟨x,y,z,u,v,rfl⟩:=ho;exact I9 hB fun e w2 h=>fin rfl ⟨rfl,by rw[hr];rfl⟩ h
end Go.D3
namespace Go.D3
open Go Proofs
set_option maxRecDepth 100000
set_option maxHeartbeats 4000000
def nN:Option (aa×Hs)->D
 | some p=>.al [.ptr (mc p.1 p.2.dt p.2.tx p.2.gd),.int .i64 0]
 | none=>.al [.bc,.int .i64 6]
theorem P0(v:Value)(w:World)(Φ:Addr->Bool->World->Prop)(hc:Calls Tryz.prog 106 #[v] w fun e w'=>∃a b,e=.returned (.tuple #[.pointer (some a),.bool b])/\Φ a b w') :
  Calls Tryz.prog 64 #[v] w fun e w'=>∃a b,e=.returned (match b with | true=>.tuple #[.pointer (some a),.int .i64 0] | false=>.tuple #[.pointer none,.int .i64 6])/\Φ a b w':=by
 have hnot:∀(x:Bool)(w:World),(Op.unary .not (.bool x)).run Tryz.prog w=.ok (.bool (!x)) w:=fun _ _=>rfl
 go_enter Tryz.func64,Tryz.ntmps64
 go_wp2_with (go_at_call 106;refine hc.mono ?_;rintro e w' ⟨a,b,rfl,hΦ⟩)
 ·rename_i hb
  go_ret2
  cases b
  ·exact⟨a,false,rfl,hΦ⟩
  ·cases hb
 ·rename_i hb
  go_ret2
  cases b
  ·cases hb
  ·exact⟨a,true,rfl,hΦ⟩
theorem IB{w:World}{A:Nat->Prop}{v:Value}{x y:D}{F:Nat->Prop}(h:aj w A v (.al [x,y]) F):∃(a b:Value)(Fs:Nat->Nat->Prop),v=.tuple #[a,b]/\aj w A a x (Fs 0)/\aj w A b y (Fs 1)/\(∀j c,Fs j c->F c)/\∀i j c,i≠j->Fs i c->¬Fs j c:=by
 cases h with
 | @al cs _ _ Fs hs hr hfs hdis =>
  have h2:cs.size=2:=hs;obtain⟨l⟩:=cs
  match l,h2 with
  | [a,b],_=>exact⟨a,b,Fs,rfl,hr 0 _ rfl,hr 1 _ rfl,hfs,hdis⟩
theorem Iy{w:World}{A:Nat->Prop}{a b:Value}{x y:D}{F:Nat->Prop}(h1:aj w A a x F)(h2:aj w A b y fun _=>False):aj w A (.tuple #[a,b]) (.al [x,y]) F:=by
 refine .al (fun j c=>j=0/\F c) rfl (fun j d hj=>?_) (fun j c h=>h.2) fun i j c hij hi hj=>hij (hi.1.trans hj.1.symm)
 match j with
 | 0=>cases hj;exact h1.mono (fun _ h=>h) (fun _ _=>rfl) (fun _ _=>rfl) fun _ h=>⟨rfl,h⟩
 | 1=>cases hj;exact h2.mono (fun _ h=>h) (fun _ _=>rfl) (fun _ _=>rfl) fun _ h=>h.elim
 | _+2=>cases hj
theorem XW(t:List UInt8)(ht:t.length<=1048576):aw Tryz.prog 64 [.v (.str t)] (nN (de t)):=by
 intro w A vs Fs hg hA hn hpre hdis hFs
 have hE:∀j b,¬Fs j b:=fun j b hb=>by
  have:=(hFs j b hb).2.2
  match j,this with
  | 0,_=>exact(hpre 0 _ rfl).2 b hb
 have hvs:vs=#[vs.getD 0 undef]:=by
  match vs,hn with
  | ⟨[x]⟩,_=>rfl
 have hv:Rd w A (vs.getD 0 undef) (.str t):=(hpre 0 _ rfl).1
 have hrd:=(X3 t ht).2 w A vs (fun _=>undef) (fun _ _=>False) hg hA hn (fun j a hj=>by
  match j with
  | 0=>cases hj;exact .rd hv
  | _+1=>cases hj) (fun k=>Pl.dead) (fun _ _ _ h=>h) (fun _ _ _ _ h=>h.elim) fun _ _ h=>h.elim
 rw[hvs] at hrd|-
 refine(P0 _ w (fun a b w'=>w.heap.size<=w'.heap.size/\(∀c,c<w.heap.size->w'.heap[c]?=w.heap[c]?)/\w'.os=w.os/\w'.tape=w.tape/\cJ w w' /\
  match de t with
  | none=>b=false
  | some p=>b=true/\∃F:Nat->Prop,aj w' (fun x=>A x\/(w.heap.size<=x/\x<w'.heap.size/\¬F x)) (.pointer (some a)) (.ptr (mc p.1 p.2.dt p.2.tx p.2.gd)) F/\∀x,F x->x<w'.heap.size/\w.heap.size<=x) (hrd.mono ?_)).mono ?_
 ·rintro e w' ⟨rc,gs',v,F,gv',Fs',⟨rfl,hq⟩,rfl,hsz,hc,_,hcg,hemp,_,hF,_,_,hsame,hos,htape,hout⟩
  have hF0:∀j x,¬Fs' j x:=fun j=>hemp j rfl
  cases hr:de t with
  | none =>
   rw[hr] at hq;obtain⟨s,g,rfl⟩:=hq;obtain⟨a,b,Fs2,rfl,h1,h2,_,_⟩:=IB (show aj w' _ v _ F from hc);cases h2;cases h1;exact⟨_,_,rfl,hsz,fun c hc=>hsame c hc fun _ h=>h,hos,htape,hout,rfl⟩
  | some p =>
   rw[hr] at hq;subst hq;obtain⟨a,b,Fs2,rfl,h1,h2,hf,_⟩:=IB (show aj w' _ v _ F from hc);cases h2;have h3:=h1.mono (A':=fun x=>A x\/(w.heap.size<=x/\x<w'.heap.size/\¬F x)) (fun x hx=>hx.imp_right fun h=>⟨h.1,h.2.1,h.2.2.1⟩) (fun _ _=>rfl) (fun _ _=>rfl) (hf 0)
   obtain⟨q,rfl⟩:∃q,a=.pointer (some q):=by
    cases h1;exact⟨_,rfl⟩
   exact⟨_,_,rfl,hsz,fun c hc=>hsame c hc fun _ h=>h,hos,htape,hout,rfl,F,h3,fun x hx=>⟨(hF x hx).1,(hF x hx).2.1.elim (fun h=>h) fun⟨_,h⟩=>h.elim⟩⟩
 ·rintro e w' ⟨a,b,rfl,hsz,hsame,hos,htape,hout,h⟩
  cases hr:de t with
  | none =>
   rw[hr] at h;obtain rfl:b=false:=h;refine⟨_,fun _=>False,fun _ _=>False,rfl,hsz,Iy .bc (.int (jM (k:=.i64) (n:=6) rfl)),fun j a hj=>?_,fun _ h=>h.elim,fun _ _ h=>h.elim,fun _ _ _ _ h=>h.elim,fun c hc _=>hsame c hc,hos,htape,hout⟩
   match j with
   | 0 =>
    cases hj;exact fun _ h=>h
   | _+1=>cases hj
  | some p =>
   rw[hr] at h;obtain⟨rfl,F,h1,h2⟩:=h;refine⟨_,F,fun _ _=>False,rfl,hsz,Iy (h1.mono (fun x hx=>hx.imp_right fun h=>⟨h.1,h.2.1,h.2.2,fun _ h=>h⟩) (fun _ _=>rfl) (fun _ _=>rfl) fun _ h=>h) (.int (jM (k:=.i64) (n:=0) rfl)),fun j a hj=>?_,fun x hx=>⟨(h2 x hx).1,.inl (h2 x hx).2,fun _ h=>h⟩,fun _ _ h=>h.elim,fun _ _ _ _ h=>h.elim,fun c hc _=>hsame c hc,hos,htape,hout⟩
   match j with
   | 0 =>
    cases hj;exact fun _ h=>h
   | _+1=>cases hj
theorem To(s:aa)(dt:List ak)(tx:List (List az))(g:Nat):(D.ptr (mc s dt tx g)).a7=true:=by
 simp only[mc,D.a7,db,bT,kF H9,kF vX,kF (kF H8),Bool.and_self]
theorem Tn(o:Option (aa×Hs)):(nN o).a7=true:=by
 cases o with
 | none=>rfl
 | some p =>
  have:=To p.1 p.2.dt p.2.tx p.2.gd;simp only[D.a7] at this;simp only[nN,D.a7,db,this,Bool.and_self]
end Go.D3
