/- PLAIN LAWS: a map of schemas after another. -/
import Derived.Test.YtpnchponfnbmiaaGreatDoorGAO
namespace Go.D3
open Go
set_option maxHeartbeats 4000000
set_option maxRecDepth 100000
def Bv:List Nat:=[0,2,3,4]
def I4:Sl:=ae Go.Proofs.Tryz.types Go.Proofs.Tryz.f85 Bv []
theorem QV:aD Go.Proofs.Tryz.prog Go.Proofs.Tryz.f85 Bv I4 1=true:=by decide +kernel
theorem G9(a:List Pth)(hs:b7 Pth.cost a<=1048576):al Go.Proofs.Tryz.prog 85 [.v (U Pth.d Pth.zero a)] (U Pth.d Pth.zero a):=by
 have hl:a.length<=1048576:=by unfold b7 at hs;omega
 have hm:a.length<=maxLen:=by simp only[maxLen];omega
 refine aC Go.Proofs.Tryz.func85 QV ?_;unfold I4 ae Bv;simp only[go_sem];refine aJ [] (fun(i:Nat)=>[(3,.int .i64 i),(2,.o (U Pth.d Pth.zero (a.take i)))]) (fun i=>i<=a.length) (fun i=>a.length-i) 0 (by simp only[go_sem];rfl) (Nat.zero_le _) rfl ?_;rintro i hi;simp only[go_sem];refine⟨fun h=>⟨h,h,af (gP (a.getD i Pth.zero).ed (Nat.le_trans (qT (cost:=Pth.cost) h _) hs)) rfl (.inl (bJ _)) ?_⟩,fun h=>by rw[List.take_of_length_le (by omega)]⟩;simp only[go_sem];exact⟨by rw[List.length_take];omega,i+1,by omega,by omega,by rw[bT h Pth.zero,aH h hm]⟩
def Am:List Nat:=[0,2,3,5,7,8,9]
def HS:Sl:=ae Go.Proofs.Tryz.types Go.Proofs.Tryz.f57 Am []
theorem PM:aD Go.Proofs.Tryz.prog Go.Proofs.Tryz.f57 Am HS 1=true:=by decide +kernel
theorem yM(a:List Pth)(hs:b7 Pth.cost a<=1048576):al Go.Proofs.Tryz.prog 57 [.v (U Pth.d Pth.zero a)] (U Pth.d Pth.zero a):=by
 have hl:a.length<=1048576:=by unfold b7 at hs;omega
 have hm:a.length<=maxLen:=by simp only[maxLen];omega
 refine aC Go.Proofs.Tryz.func57 PM ?_;unfold HS ae Am;simp only[go_sem];refine aJ [3] (fun(i:Nat)=>[(6,.int .i64 i),(2,.o (U Pth.d Pth.zero (a.take i)))]) (fun i=>i<=a.length) (fun i=>a.length-i) 0 (by simp only[go_sem];rfl) (Nat.zero_le _) rfl ?_;rintro i hi;simp only[go_sem];refine⟨fun h=>⟨h,af (mL (a.getD i Pth.zero).ed (Nat.le_trans (qT (cost:=Pth.cost) h _) hs)) rfl (.inl (bJ _)) ?_⟩,fun h=>by rw[List.take_of_length_le (by omega)]⟩;simp only[go_sem];exact⟨by rw[List.length_take];omega,i+1,by omega,by omega,by rw[bT h Pth.zero,aH h hm]⟩
def zY:List Nat:=[0,2]
def HB:Sl:=ae Go.Proofs.Tryz.types Go.Proofs.Tryz.f53 zY []
theorem Pv:aD Go.Proofs.Tryz.prog Go.Proofs.Tryz.f53 zY HB 1=true:=by decide +kernel
theorem GJ(s:Sch)(hs:Sch.cost s<=1048576):al Go.Proofs.Tryz.prog 53 [.v (.ptr s.cells)] (Sch.d s):=by
 unfold Sch.cost at hs;refine aC Go.Proofs.Tryz.func53 Pv ?_;unfold HB ae zY;simp only[go_sem];refine af (mL s.fr (by omega)) rfl (.inl (bJ _)) ?_;simp only[go_sem];refine af (mL s.to (by omega)) rfl (.inl (bJ _)) ?_;simp only[go_sem];refine af (yM s.lf (by omega)) rfl (.inl (gq jA _)) ?_;simp only[go_sem];refine af (yM s.rt (by omega)) rfl (.inl (gq jA _)) ?_;simp only[go_sem]
def BB:List Nat:=[0,2,1]
def Ja:Sl:=ae Go.Proofs.Tryz.types Go.Proofs.Tryz.f45 BB []
theorem Q2:aD Go.Proofs.Tryz.prog Go.Proofs.Tryz.f45 BB Ja 1=true:=by decide +kernel
theorem Hc(s:Sch)(hs:Sch.cost s<=1048576):al Go.Proofs.Tryz.prog 45 [.v (Sch.d s)] (Sch.d s):=by
 unfold Sch.cost at hs;refine aC Go.Proofs.Tryz.func45 Q2 ?_;unfold Ja ae BB;simp only[go_sem];refine af (gP s.fr (by omega)) rfl (.inl (bJ _)) ?_;simp only[go_sem];refine af (gP s.to (by omega)) rfl (.inl (bJ _)) ?_;simp only[go_sem];refine af (G9 s.lf (by omega)) rfl (.inl (gq jA _)) ?_;simp only[go_sem];refine af (G9 s.rt (by omega)) rfl (.inl (gq jA _)) ?_;simp only[go_sem]
 all_goals rfl
def fW(f g:List Int):List Int:=f.map fun x=>g.getD x.toNat 0
theorem r9{f g:List Int}:(fW f g).length=f.length:=List.length_map _
theorem Vt{f g:List Int}{i:Nat}(h:i<f.length):(fW f g).getD i 0=g.getD (f.getD i 0).toNat 0:=by
 unfold fW;rw[List.getD_eq_getElem?_getD,List.getElem?_map,List.getElem?_eq_getElem h,aO h];rfl
def Bj:List Nat:=[0,1,4,5,6]
def IT:Sl:=ae Go.Proofs.Tryz.types Go.Proofs.Tryz.f46 Bj []
theorem QK:aD Go.Proofs.Tryz.prog Go.Proofs.Tryz.f46 Bj IT 2=true:=by decide +kernel
theorem TL(f g:List Int)(hl:f.length<=1048576)(hr:∀i,i<f.length->0<=f.getD i 0/\f.getD i 0<g.length):al Go.Proofs.Tryz.prog 46 [.v (ints f),.v (ints g)] (ints (fW f g)):=by
 have hm:f.length<=maxLen:=by simp only[maxLen];omega
 refine aC Go.Proofs.Tryz.func46 QK ?_;unfold IT ae Bj;simp only[go_sem];refine aJ [] (fun(i:Nat)=>[(4,.int .i64 i),(3,.o (ints (fW (f.take i) g)))]) (fun i=>i<=f.length) (fun i=>f.length-i) 0 (by simp only[go_sem];rfl) (Nat.zero_le _) rfl ?_;rintro i hi;simp only[go_sem];refine⟨fun h=>?_,fun h=>by rw[List.take_of_length_le (by omega)]⟩;have:=hr i h;refine⟨h,this,by rw[r9,List.length_take];omega,i+1,by omega,by omega,?_⟩;rw[bT h 0,aH h hm];unfold fW;rw[List.map_append];rfl
def AH:List Nat:=[0,1,4,5,6,7,11,12,13]
def Ie:Sl:=ae Go.Proofs.Tryz.types Go.Proofs.Tryz.f54 AH []
theorem P9:aD Go.Proofs.Tryz.prog Go.Proofs.Tryz.f54 AH Ie 2=true:=by decide +kernel
theorem Tq(f g:List Int)(hl:f.length<=1048576)(hr:∀i,i<f.length->0<=f.getD i 0/\f.getD i 0<g.length):al Go.Proofs.Tryz.prog 54 [.v (ints f),.v (ints g)] (ints (fW f g)):=by
 have hm:f.length<=maxLen:=by simp only[maxLen];omega
 refine aC Go.Proofs.Tryz.func54 P9 ?_;unfold Ie ae AH;simp only[go_sem];refine⟨by omega,?_⟩;refine aJ [4,5] (fun(i:Nat)=>[(8,.int .i64 i),(3,.o (ints (dB (fW f g) 0 i)))]) (fun i=>i<=f.length) (fun i=>f.length-i) 0 (by simp only[go_sem];rfl) (Nat.zero_le _) ?_ ?_
 ·simp only[go_sem,sU,r9];rfl
 rintro i hi;simp only[go_sem];refine⟨fun h=>?_,fun h=>by rw[sS (by rw[r9];exact h)]⟩;have h':i<(fW f g).length:=by rw[r9];exact h
 have:=hr i h;refine⟨h,this,by rw[lW (by omega)];omega,by rw[lW (by omega)];omega,i+1,by omega,by omega,?_⟩;rw[<-Vt h,sT h',aH h hm]
theorem Sa{p q:List Pth}(hl:p.length=q.length)(h:∀j,j<p.length->(p.getD j Pth.zero).st=(q.getD j Pth.zero).st/\(p.getD j Pth.zero).ed=(q.getD j Pth.zero).ed):p=q:=by
 apply List.ext_getElem hl;intro j h1 h2;have:=h j h1;rw[aO h1,aO h2] at this;obtain⟨e1,e2⟩:=this;cases hx:p[j] with | mk a b=>cases hy:q[j] with | mk c d=>rw[hx,hy] at e1 e2;simp only at e1 e2;rw[e1,e2]
noncomputable def ja{α:Type}(a b:α):Bool:=@decide (a=b) (Classical.propDecidable _)
theorem oz{α:Type}{a b:α}(h:a=b):true=ja a b:=by unfold ja;exact(@decide_eq_true _ (Classical.propDecidable _) h).symm
theorem lA{α:Type}{a b:α}(h:a≠b):false=ja a b:=by unfold ja;exact(@decide_eq_false _ (Classical.propDecidable _) h).symm
def BF:List Nat:=[0,1,4,5]
def Je:Sl:=ae Go.Proofs.Tryz.types Go.Proofs.Tryz.f84 BF []
theorem Q6:aD Go.Proofs.Tryz.prog Go.Proofs.Tryz.f84 BF Je 2=true:=by decide +kernel
theorem He(p q:List Pth)(hs:b7 Pth.cost p<=1048576):al Go.Proofs.Tryz.prog 84 [.v (U Pth.d Pth.zero p),.v (U Pth.d Pth.zero q)] (.bool (ja p q)):=by
 have hl:p.length<=1048576:=by unfold b7 at hs;omega
 have hm:p.length<=maxLen:=by simp only[maxLen];omega
 refine aC Go.Proofs.Tryz.func84 Q6 ?_;unfold Je ae BF;simp only[go_sem];refine⟨fun h=>lA fun e=>by subst e;simp at h,fun h=>?_⟩;have hpq:p.length=q.length:=by simp at h;omega
 refine aJ [] (fun(i:Nat)=>[(3,.int .i64 i)]) (fun i=>i<=p.length/\∀j,j<i->(p.getD j Pth.zero).st=(q.getD j Pth.zero).st/\(p.getD j Pth.zero).ed=(q.getD j Pth.zero).ed) (fun i=>p.length-i) 0 (by simp only[go_sem];rfl) ⟨Nat.zero_le _,fun j hj=>by omega⟩ rfl ?_;rintro i ⟨hi,hj⟩;simp only[go_sem];refine⟨fun h1=>⟨h1,by omega,fun h2=>⟨h2,h1⟩,fun h2=>⟨h2,by omega⟩,bt (fun _=>qf _ _ (Nat.le_trans (qT (cost:=Pth.cost) h1 Pth.zero) hs)) rfl (fun h=>h) (.inl rfl) ?_⟩,fun h1=>oz (Sa hpq fun j hj'=>hj j (by omega))⟩;simp only[go_sem];refine⟨fun h2=>by rw[h2];rfl,fun h2=>lA fun e=>?_,fun h2=>⟨i+1,⟨h1,fun j hj'=>?_⟩,by omega,by rw[aH h1 hm]⟩⟩
 ·subst e;simp at h2
 ·simp only[Bool.or_eq_false_iff,bne_eq_false_iff_eq,Bool.not_eq_false',beq_iff_eq] at h2
  by_cases hji:j=i
  ·rw[hji];exact h2
  ·exact hj j (by omega)
def BE:List Nat:=[0,1,4,2,3]
def Jd:Sl:=ae Go.Proofs.Tryz.types Go.Proofs.Tryz.f44 BE []
theorem Q5:aD Go.Proofs.Tryz.prog Go.Proofs.Tryz.f44 BE Jd 2=true:=by decide +kernel
theorem Hd(s t:Sch)(hs:Sch.cost s<=1048576):al Go.Proofs.Tryz.prog 44 [.v (Sch.d s),.v (Sch.d t)] (.bool (ja s t)):=by
 unfold Sch.cost at hs;refine aC Go.Proofs.Tryz.func44 Q5 ?_;unfold Jd ae BE;simp only[go_sem];refine bt (fun _=>qf s.fr t.fr (by omega)) rfl (fun h=>h) (.inl rfl) ?_;simp only[go_sem];refine bt (fun _=>qf s.to t.to (by omega)) rfl (fun h=>h) (.inl rfl) ?_;simp only[go_sem];refine bt (fun _=>He s.lf t.lf (by omega)) rfl (fun h=>h) (.inl rfl) ?_;simp only[go_sem];refine bt (fun _=>He s.rt t.rt (by omega)) rfl (fun h=>h) (.inl rfl) ?_;simp only[go_sem];by_cases e:s=t
 ·subst e
  rw[<-oz rfl,<-oz rfl,<-oz rfl];simp
 ·rw[<-lA e]
  by_cases e3:s.lf=t.lf
  ·by_cases e4:s.rt=t.rt
   ·refine Bool.eq_false_iff.2 fun hx=>e ?_
    simp only[Bool.and_eq_true,beq_iff_eq] at hx;obtain⟨⟨⟨⟨a1,a2⟩,a3⟩,_⟩,_⟩:=hx;cases s;cases t;simp_all
   ·rw[<-lA e4];simp
  ·rw[<-lA e3];simp
end Go.D3
namespace Go.D3
open Go
def Smp.lF(n:Smp)(b d:au)(p:Pth):Int:=n.eX d (b.ls.getD (b.arr p p.ed.length).toNat Pth.zero) (b.ls.getD (b.arr p p.ed.length).toNat Pth.zero).ed.length
def Smp.zK(n:Smp)(b d:au)(p:Pth):Pth:=d.ls.getD (n.lF b d p).toNat Pth.zero
def Smp.fj(n:Smp)(b d:au)(l:List Pth):List Pth:=l.map (n.zK b d)
noncomputable def Smp.lG(m n:Smp):Smp×Int :=
 if m.okB=true/\n.okB=true then
  match m.src.aU,m.av.aU,n.src.aU,n.av.aU with
  | some _,some b,some _,some d=>if(m.dK b&&n.dK d&&ja m.av n.src)=true then(⟨m.src,n.av,fW m.aX n.aX,n.fj b d m.aL⟩,0) else(Smp.zero,5)
  | _,_,_,_=>(Smp.zero,3)
 else(Smp.zero,1)
theorem FU{s:Sch}(h:s.ok=true){x:au}(hp:s.aU=some x):x.ls.length=x.c.fr.length:=by
 obtain⟨ls,_,_,rfl⟩:=yo h hp;exact(List.length_map _).symm
theorem Smp.vb{m n:Smp}(hm:m.Ok)(hn:n.Ok)(e:m.av=n.src){b d:au}(hb:m.av.aU=some b)(hd:n.av.aU=some d){p:Pth}{y:Int}(hp:m.av.aB p=some y) :
  (0<=b.arr p p.ed.length/\b.arr p p.ed.length<b.ls.length)/\(∃z,n.src.aB (b.ls.getD (b.arr p p.ed.length).toNat Pth.zero)=some z)/\0<=n.lF b d p/\n.lF b d p<d.ls.length:=by
 have hb':=iv hm.t hb;have hd':=iv hn.t hd;obtain⟨h,x,h1,h2,_⟩:=au.nr hb' hp p.ed.length (Nat.le_refl _);have hl:=FU hm.t hb;have hl2:=FU hn.t hd;have hsp:=(rN hm.t hb).1 (b.ls.getD h Pth.zero) (cH (d:=Pth.zero) (by omega));unfold Smp.lF;rw[h1,Int.toNat_natCast];obtain⟨z,hz⟩:=hsp;rw[e] at hz;obtain⟨k,v,k1,k2,_⟩:=Smp.tn hn hd' hz _ (Nat.le_refl _);exact⟨⟨by omega,by omega⟩,⟨z,hz⟩,by omega,by omega⟩
theorem yp{s:Sch}{p:Pth}{y:Int}(h:s.aB p=some y):p.ed.length<=6:=by
 obtain⟨_,h2,_⟩:=bx.1 h;omega
end Go.D3
