/- CONTRACTS: the classes of short paths, the program's side. -/
import Derived.Test.YtpnchponfnbmiaaGreatDoorGBA
import Derived.Test.YtpnchponfnbmiaaGreatDoorHG
namespace Go.D3
open Go
set_option maxHeartbeats 4000000
set_option maxRecDepth 100000
theorem BG{A B C:Prop}(hA:C->A)(hB:C->B)(hC:C):A/\B:=⟨hA hC,hB hC⟩
def fB:Option Pth->D
 | some p=>.agg [.int .i64 p.st,ints p.ed]
 | none=>.agg [.int .i64 0,.vw (.aF (.int .i64 0))]
theorem SV{n:Nat}:D.slice (.agg [.int .i64 0,.vw (.aF (.int .i64 0))]) (List.replicate n (.agg [.int .i64 0,.vw (.aF (.int .i64 0))]))=U fB none (List.replicate n none):=by unfold U;rw[List.map_replicate];rfl
theorem FW{M:List (Option Pth)}{c:Nat}(h:c<M.length){a:Int}{b:List Int}:((U fB none M).eF c 0 (.int .i64 a)).eF c 1 (U (.int .i64) 0 b)=U fB none (M.set c (some ⟨a,b⟩)):=by
 unfold U;simp only[D.eF,D.cR];have e:(M.map fB).getD c (fB none)=fB (M.getD c none):=by rw[getD_map']
 rw[e];have h2:eo (fB (M.getD c none)) 0 (.int .i64 a)=.agg [.int .i64 a,(match M.getD c none with | some p=>ints p.ed | none=>.vw (.aF (.int .i64 0)))]:=by cases M.getD c none<;>rfl
 rw[h2,List.set_set,List.getD_eq_getElem?_getD,List.getElem?_set_self (by simpa using h),List.map_set];rfl
theorem R4{K:List Pth}{i:Nat}(h:i<K.length):(K.map some).getD i none=some (K.getD i Pth.zero):=by rw[aO (by simpa using h),List.getElem_map,aO h]
attribute [go_sem] SV
def BS(s:Sch)(l:List D):Prop:=(∃o,l=[U Pth.d Pth.zero o,.bj]/\vD s o)\/∃m,l=[U Pth.d Pth.zero [],.bp 181 (.agg [.str m])]/\¬s.fits
theorem TC(s:Sch)(hs:gD s):bY Go.Proofs.Tryz.prog 172 [.ptr s.cells] [] fun rc gs=>gs=[]/\∃l,rc=.ah l/\BS s l:=bY.view (Q:=BS s) (Tf s hs)
structure jM(s:Sch)(list:List Pth)(cl:List Int)(K:List Pth):Prop where
 sh:vD s list
 c:gU s list cl
 k:iD s list cl K.length K
 gz:∀p∈K,p.ed.length<6
def Kf(s:Sch)(rc:D)(gs:List D):Prop:=gs=[]/\∃l,rc=.ah l/\((∃list cl K,l=[.ptr [kz list,ints cl,U fB none (K.map some)],.bj]/\jM s list cl K)\/∃m,l=[.aP,.bp 181 (.agg [.str m])]/\s.fK none)
def Ac:List Nat:=[0,2,3,4,5,6,7,8,9,10,11,12,13,14,16,28,29,30,49,50,51,60,61,157,158,159]
def HI:Sl:=ae Go.Proofs.Tryz.types Go.Proofs.Tryz.f140 Ac [(0,172),(0,175),(2,178),(4,2),(7,86),(9,1),(12,95)]
theorem PC:aD Go.Proofs.Tryz.prog Go.Proofs.Tryz.f140 Ac HI 1=true:=by decide +kernel
theorem Td(s:Sch)(h:s.ok=true):bY Go.Proofs.Tryz.prog 140 [.ptr s.cells] [] (Kf s):=by
 obtain⟨hk1,hlf,hrt⟩:=eB h;have hs:=fg hk1;refine oi .view Go.Proofs.Tryz.func140 PC ?_;unfold HI ae Ac;simp only[go_sem];refine nC [] false (TC s hs) ?_;rintro _ _ ⟨rfl,l,rfl,hq⟩;refine⟨(by repeat(first | exact trivial | refine⟨(fun h=>by cases h),?_⟩)),(fun h=>by cases h),?_⟩;rcases hq with⟨o,rfl,hq⟩ | ⟨m,rfl,hq⟩
 rotate_left
 ·simp only[go_sem]
  exact⟨_,_,⟨rfl,_,rfl,.inr ⟨_,rfl,.many hq⟩⟩,rfl,rfl,trivial⟩
 simp only[go_sem];have hl:=hq.len;have hv:∀p∈o,s.sp p:=hq.a.v;refine aJ [6,7] (fun(i:Nat)=>[(5,.box [.o (.ptr [bC D.str (D.int .i64) (oV o i),ints [],U Pth.d Pth.zero []])]),(17,.int .i64 i)]) (fun i=>i<=o.length) (fun i=>o.length-i) 0 (by simp only[go_sem];rfl) (Nat.zero_le _) rfl ?_;intro i hi;simp only[go_sem];refine⟨fun h1=>?_,fun h1=>?_⟩
 ·have hp:=cH (d:=Pth.zero) h1
  have hsp:=hv _ hp;have h6:(o.getD i Pth.zero).ed.length<=6:=by obtain⟨z,hz⟩:=hsp;exact(bx.1 hz).2.1
  refine⟨h1,af (yO _ _ (rY hs hsp) (by omega)) rfl (.inl rfl) ?_⟩;simp only[go_sem];rw[show(⟨(o.getD i Pth.zero).st,(o.getD i Pth.zero).ed⟩:Pth)=o.getD i Pth.zero from rfl,K9 hs hv hq.nd h1,aH h1 (by simp only[maxLen];omega)];exact⟨by unfold oV;rw[RX];simp only[maxLen];omega,i+1,h1,by omega,rfl⟩
 obtain rfl:i=o.length:=by omega
 refine af (Ti o.length (by omega)) rfl (.inl (bJ _)) ?_;simp only[go_sem];refine aJ [9,10,11,21,22] (fun(p:Nat×List Int)=>[(8,.box [.o (ints p.2)]),(20,.int .i64 p.1)]) (fun p=>p.1<=o.length/\cU s o p.2 p.1 0 0) (fun p=>o.length-p.1) (0,bw o.length) (by simp only[go_sem];rfl) ⟨Nat.zero_le _,cU.zero hq.a⟩ rfl ?_;rintro⟨w,J⟩ ⟨hw,hJ⟩;simp only at hw hJ;simp only[go_sem];refine⟨fun h2=>⟨h2,?_⟩,fun h2=>?_⟩
 ·refine aJ [11] (fun(p:Nat×List Int)=>[(8,.box [.o (ints p.2)]),(22,.int .i64 p.1)]) (fun p=>p.1<=s.lf.length/\cU s o p.2 w p.1 0) (fun p=>s.lf.length-p.1) (0,J) (by simp only[go_sem];rfl) ⟨Nat.zero_le _,hJ⟩ rfl ?_
  rintro⟨i,L⟩ ⟨hi2,hL⟩;simp only at hi2 hL;simp only[go_sem];refine⟨fun h3=>⟨h3,by omega,?_⟩,fun h3=>?_⟩
  ·refine nC [8,9,5,10] false (Ta s h o hq.a hv hq.nd hl L w i h2 h3 hL (ints []) (U Pth.d Pth.zero [])) ?_
   rintro _ _ ⟨K,rfl,rfl,hK⟩;refine⟨(by repeat(first | exact trivial | refine⟨(fun h=>by cases h),?_⟩)),(fun h=>by cases h),?_⟩;simp only[go_sem];exact⟨(i+1,K),⟨h3,hK.xu (Nat.lt_succ_self _)⟩,by simp only;omega,by rw[aH h3 (by simp only[maxLen];omega)]⟩
  ·exact⟨(w+1,L),⟨h2,hL.xw (by omega)⟩,by simp only;omega,by rw[aH h2 (by simp only[maxLen];omega)]⟩
 obtain rfl:w=o.length:=by omega
 have hU:=hJ.uf;have hjl:=hJ.len;have hio:∀K:St->Prop,∀st:St,bP [.sub 8 [(0,0)]] (fun l st=>∃x y,l=[x]/\[Arg.io (.o (ints J)) (.o (ints (gX J J.length)))]=.io (.o x) (.o y)::[].map .v/\eL [.sub 8 [(0,0)]] [y] (fun st=>K (st.push (aM (ints (dO (gj J J.length)))))) st) st->@ju _ Go.Proofs.Tryz.prog 178 (.sub 8 [(0,0)]) (some []) true True none ⟨K⟩ st:=fun K st hh=>j0 (Tl J hU (by omega)) trivial hh
 apply BG
 ·intro hc
  refine hio _ _ ?_;simp only[go_sem];exact⟨_,_,rfl,rfl,rfl,hc⟩
 ·intro hc
  refine hio _ _ ?_;simp only[go_sem];exact⟨_,_,rfl,rfl,rfl,hc⟩
 clear hio;obtain⟨nc,hnc,hncl,hb,hex⟩:=LG (gj J J.length);have hcl:gU s o (dO (gj J J.length)):=hJ.cls hq.a hq.nd (pz.trans hjl) (fun i hi=>M3 (by omega)) v7;rw[pz,hjl] at hncl hb hex;rw[hjl];rw[hjl] at hcl hnc;generalize dO (gj J o.length)=cl at hcl hnc hb hex;have hcll:=hcl.len;refine af (To cl (by omega) (fun i hi=>by have:=hb i (by omega);omega)) rfl (.inl rfl) ?_;rw[hnc];simp only[go_sem];refine⟨⟨Nat.le_refl _,by omega⟩,?_⟩;rw[wrap_small (by omega) (by omega)];refine aJ [13] (fun(p:Nat×List (Option Pth))=>[(5,.box [.o (.ptr [kz o,ints cl,U fB none p.2])]),(12,.int .i64 ((p.1:Int)-1))]) (fun p=>p.1<=o.length/\gV s o cl nc p.1 p.2) (fun p=>p.1) (o.length,List.replicate nc none) (by simp only[go_sem];rfl) ⟨Nat.le_refl _,gV.zero⟩ rfl ?_;rintro⟨i,M⟩ ⟨hi3,hM⟩;simp only at hi3 hM;simp only[go_sem];have hMl:=hM.len;refine⟨fun h3=>?_,fun h3=>?_⟩
 ·obtain⟨j,rfl⟩:∃j,i=j+1:=⟨i-1,by omega⟩
  have ej:((j+1:Nat):Int)-1=j:=by omega
  obtain⟨hb1,hb2⟩:=hb j (by omega);obtain⟨c,hc⟩:∃c:Nat,cl.getD j 0=c:=⟨(cl.getD j 0).toNat,by omega⟩;simp only[ej,Int.toNat_natCast,hc];have hj6:(o.getD j Pth.zero).ed.length<=6:=by obtain⟨z,hz⟩:=hv _ (cH (d:=Pth.zero) (show j<o.length by omega));exact(bx.1 hz).2.1
  have fin:M.getD c none=none\/(∃q,M.getD c none=some q/\s.lt (o.getD j Pth.zero) q)->gV s o cl nc j (M.set c (some (o.getD j Pth.zero))):=fun hh=>hM.set (by omega) hc (by omega) fun p hp=>by
   rcases hh with hh | ⟨q,hh,hlt⟩
   ·rw[hh] at hp;cases hp
   ·rw[hh] at hp;injection hp with hp;rw[<-hp];exact hlt
  cases hMc:M.getD c none with
  | none =>
   simp only[go_sem,fB,hMc];refine⟨by omega,by omega,by omega,bt (res:=.int .i64 0) (fun h=>by cases h) rfl (fun h=>by cases h) (.inl rfl) ?_⟩;simp only[go_sem];refine⟨by omega,by omega,af (mL _ (by omega)) rfl (.inl (bJ _)) ?_⟩;simp only[go_sem,fB,hMc];rw[FW (by omega)];exact⟨by omega,by omega,(j,_),⟨by simp only;omega,fin (.inl hMc)⟩,by simp only;omega,by rw[wrap_small (by omega) (by omega)]⟩
  | some q =>
   obtain⟨m,m1,m2,m3,m4,m5⟩:=hM.yes c q (by omega) hMc;have heq:=(hcl.eq j m (by omega) m2).1 (by omega);have hee:=lX h heq;rw[<-m4] at hee;have hq6:q.ed.length<=6:=by obtain⟨z,hz⟩:=hee.2.2.2;exact(bx.1 hz).2.1
   have hqn:q.ed≠[]:=fun e=>by
    have hmn:m<s.nd.toNat:=Nat.lt_of_not_le fun hh=>hq.f.2.1 m hh m2 (m4▸e)
    have:=hq.f.2.2 j (by omega)
    have e2:o.getD j Pth.zero=q:=by
     cases hx:o.getD j Pth.zero;cases q;rw[hx] at this hee;simp only at this hee e;rw[this,hee.1,e]
    have:=getD_inj hq.nd (show j<o.length by omega) m2 (e2.trans m4);omega
   have hql : 0<q.ed.length:=List.length_pos_iff.2 hqn;simp only[go_sem,fB,hMc];refine⟨by omega,by omega,by omega,by omega,by omega,by omega,by omega,bt (fun _=>GM (o.getD j Pth.zero) q (by omega) (by omega)) rfl (fun h=>h) (.inl rfl) ?_⟩;simp only[go_sem];have hlt:=LN (s:=s) (p:=o.getD j Pth.zero) (q:=q) hee.1 hee.2.1;refine⟨fun h4=>?_,fun h4=>?_⟩
   ·refine⟨by omega,by omega,af (mL _ (by omega)) rfl (.inl (bJ _)) ?_⟩
    simp only[go_sem,fB,hMc];rw[FW (by omega)];exact⟨by omega,by omega,(j,_),⟨by simp only;omega,fin (.inr ⟨q,hMc,hlt.1 h4⟩)⟩,by simp only;omega,by rw[wrap_small (by omega) (by omega)]⟩
   ·exact⟨(j,M),⟨by simp only;omega,hM.bM hc (by omega) hMc fun hh=>h4 (hlt.2 hh)⟩,by simp only;omega,by rw[wrap_small (by omega) (by omega)]⟩
 obtain rfl:i=0:=by omega
 obtain⟨K,rfl,hK⟩:=hM.done hb hex;have hKl:=hK.len;refine aJ [14] (fun(i:Nat)=>[(25,.int .i64 i)]) (fun i=>i<=K.length/\∀k,k<i->(K.getD k Pth.zero).ed.length≠6) (fun i=>K.length-i) 0 (by simp only[go_sem];rfl) ⟨Nat.zero_le _,fun k hk=>absurd hk (Nat.not_lt_zero _)⟩ rfl ?_;rintro i ⟨hi5,h6⟩;by_cases h7:i<K.length
 ·simp only[go_sem,R4 h7,fB,List.length_map]
  refine⟨fun _=>⟨h7,h7,fun h8=>?_,fun h8=>?_⟩,fun h8=>absurd h7 h8⟩
  ·exact⟨_,_,⟨rfl,_,rfl,.inr ⟨_,rfl,hK.iV h hq.a hq.nd hcl (c:=i) (by omega) (by omega)⟩⟩,rfl,rfl,trivial⟩
  ·refine⟨i+1,⟨h7,fun k hk=>?_⟩,by omega,by rw[aH h7 (by simp only[maxLen];omega)]⟩
   by_cases hki:k=i
   ·subst hki
    rw[beq_eq_false_iff_ne] at h8;omega
   ·exact h6 k (by omega)
 ·simp only[go_sem,List.length_map]
  refine⟨fun h8=>absurd h8 h7,fun _=>⟨_,_,⟨rfl,_,rfl,.inl ⟨o,cl,K,rfl,hq,hcl,by rw[hKl];exact hK,fun p hp=>?_⟩⟩,rfl,rfl,trivial⟩⟩;obtain⟨k,hk,rfl⟩:=ew (d:=Pth.zero) hp;obtain⟨m,m1,_,m3⟩:=hK.ex k (by omega);have h9:=h6 k (by omega);obtain⟨z,hz⟩:=hv _ (cH (d:=Pth.zero) m1);rw[<-m3] at hz;have:=(bx.1 hz).2.1;omega
def Kg(s:Sch)(l:List D):Prop:=(∃list cl K,l=[.ptr [kz list,ints cl,U Pth.d Pth.zero K],.bj]/\jM s list cl K)\/∃m,l=[.aP,.bp 181 (.agg [.str m])]/\s.fK none
theorem R5{K:List Pth}:(U fB none (K.map some)).strip=U Pth.d Pth.zero K:=by
 rw[u5 (g:=Pth.d) (e:=Pth.zero) (t:=fun o:Option Pth=>o.getD Pth.zero) rfl (fun x hx=>?_),List.map_map]
 ·congr 1
  exact List.map_id K
 ·obtain⟨p,_,rfl⟩:=List.mem_map.1 hx
  show D.agg [_,(ints p.ed).strip]=_;rw[dh];rfl
theorem Tx(s:Sch)(h:s.ok=true):bY Go.Proofs.Tryz.prog 140 [.ptr s.cells] [] fun rc gs=>gs=[]/\∃l,rc=.ah l/\Kg s l:=by
 refine(bY.clean (Q:=fun l=>(∃list cl K,l=[.ptr [kz list,ints cl,U fB none (K.map some)],.bj]/\jM s list cl K)\/∃m,l=[.aP,.bp 181 (.agg [.str m])]/\s.fK none) (Td s h) fun l hl=>?_).imp fun r g ⟨hg,l,hr,hl⟩=>⟨hg,_,hr,?_⟩
 ·rcases hl with⟨_,_,_,rfl,_⟩ | ⟨_,rfl,_⟩<;>exact⟨trivial,trivial,trivial⟩
 ·rcases hl with⟨o,cl,K,rfl,hh⟩ | ⟨m,rfl,hh⟩
  ·refine .inl ⟨o,cl,K,?_,hh⟩
   show[D.ptr [_,(ints cl).strip,(U fB none (K.map some)).strip],_]=_;rw[dh,R5];rfl
  ·exact .inr ⟨m,rfl,hh⟩
end Go.D3
