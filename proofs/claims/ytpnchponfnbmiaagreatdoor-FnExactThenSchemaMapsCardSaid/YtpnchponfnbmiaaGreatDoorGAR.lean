/- CONTRACTS: a map of schemas after another, the reference's side: where there is one. -/
import Derived.Test.YtpnchponfnbmiaaGreatDoorGAQ
namespace Go.D3
open Go
set_option maxRecDepth 100000
set_option maxHeartbeats 4000000
theorem TZ{m n:Smp}{a b d:au}(hm:m.okB=true)(hn:n.okB=true)(h1:kV m=.ah [.agg (bG m a b),.int .i64 0])(h2:kV n=.ah [.agg (bG n b d),.int .i64 0])(e:m.av=n.src)
  (hb:m.av.aU=some b) (hd:n.av.aU=some d) (hcm:Smp.cost m<=1048576) (hcn:Smp.cost n<=1048576) :
  al Go.Proofs.Tryz.prog 15 [.v (Smp.d m),.v (Smp.d n)] (.ah [Smp.d ⟨m.src,n.av,fW m.aX n.aX,n.fj b d m.aL⟩,.int .i64 0]):=by
 have hmo:=Smp.iU hm;have hno:=Smp.iU hn;have c1:=uN m;have c2:=uN n;rw[h1] at c1;rw[h2] at c2;have p1:=ow m;have p2:=ow n;rw[hm] at p1;rw[hn] at p2;unfold Smp.cost at hcm hcn;have p3:=Hd m.av n.src (by omega);rw[<-oz e] at p3;have p4:=Hc m.src (by omega);have p5:=Hc n.av (by omega)
 have p6:=TL m.aX n.aX (by omega) fun i hi=>by
  have:=hmo.r i hi;have hn':=hno.n;rw[e] at this;omega
 have p7:=TW hno (a:=b) (by rw[<-e];exact hb) hd;have p8:=fun {p y}(hp:m.av.aB p=some y)=>GD (iv hmo.t hb) hp
 unfold bG Smp.cells au.sL at c1 c2 p7;unfold au.sL at p8;refine aC Go.Proofs.Tryz.func15 xJ ?_;unfold uP ae si;simp only[go_sem];refine af p1 rfl (.inl rfl) ?_;simp only[go_sem];refine bt (fun _=>p2) rfl (fun h=>h) (.inl rfl) ?_;simp only[go_sem];refine af c1 rfl (.inr trivial) ?_;simp(config:={ maxSteps:=4000000 }) only[go_sem];refine af c2 rfl (.inr trivial) ?_;simp(config:={ maxSteps:=4000000 }) only[go_sem];refine⟨fun _=>rfl,fun h=>absurd h (by simp),fun _=>⟨fun _=>rfl,bt (fun _=>p3) rfl (fun h=>h) (.inl rfl) ?_⟩⟩;simp(config:={ maxSteps:=4000000 }) only[go_sem];refine⟨fun _=>rfl,fun h=>absurd h (by simp),fun _=>?_⟩;refine af p4 rfl (.inl (pN _)) ?_;simp(config:={ maxSteps:=4000000 }) only[go_sem];refine af p5 rfl (.inl (pN _)) ?_;simp(config:={ maxSteps:=4000000 }) only[go_sem];refine af p6 rfl (.inl (bJ _)) ?_;simp(config:={ maxSteps:=4000000 }) only[go_sem];refine af p7 rfl (.inl (Fa _)) ?_;simp(config:={ maxSteps:=4000000 }) only[go_sem]
 have hel:m.aL.length<=8:=by
  have h1:=hmo.e;have h2:=(fg (eB hmo.s).1).f8;omega
 have hal:∀l,(n.fj b d l).length=l.length:=fun l=>List.length_map _
 refine aJ [13] (fun(i:Nat)=>[(10,.box [.int .i64 m.src.nd,.o (ints m.src.fr),.o (ints m.src.to),.o (U Pth.d Pth.zero m.src.lf),.o (U Pth.d Pth.zero m.src.rt),.int .i64 n.av.nd,.o (ints n.av.fr),.o (ints n.av.to),.o (U Pth.d Pth.zero n.av.lf),.o (U Pth.d Pth.zero n.av.rt),.o (ints (fW m.aX n.aX)),.o (U Pth.d Pth.zero (n.fj b d (m.aL.take i)))]),(12,.int .i64 i)]) (fun i=>i<=m.aL.length) (fun i=>m.aL.length-i) 0 (by simp only[go_sem];rfl) (Nat.zero_le _) rfl ?_;intro i hi;simp(config:={ maxSteps:=4000000 }) only[go_sem];refine⟨fun h3=>?_,fun h3=>?_⟩
 ·obtain⟨_,hp⟩:=hmo.p i h3
  obtain⟨⟨k1,k2⟩,⟨w,hw⟩,k3,k4⟩:=Smp.vb hmo hno e hb hd hp;have hgl:(n.dW d b.ls).length=b.ls.length:=List.length_map _;refine⟨h3,af (p8 hp) rfl (.inl rfl) ?_⟩;simp(config:={ maxSteps:=4000000 }) only[go_sem]
  have hg:(n.dW d b.ls).getD (b.arr (m.aL.getD i Pth.zero) (m.aL.getD i Pth.zero).ed.length).toNat 0=n.lF b d (m.aL.getD i Pth.zero):=by
   have hj:(b.arr (m.aL.getD i Pth.zero) (m.aL.getD i Pth.zero).ed.length).toNat<b.ls.length:=by omega
   unfold Smp.dW;rw[List.getD_eq_getElem?_getD,List.getElem?_map,List.getElem?_eq_getElem hj];unfold Smp.lF;rw[aO hj];rfl
  have hlen:(n.zK b d (m.aL.getD i Pth.zero)).ed.length<=6:=by
   obtain⟨y,hy⟩:=(rN hno.t hd).1 _ (cH (d:=Pth.zero) (show(n.lF b d (m.aL.getD i Pth.zero)).toNat<d.ls.length by omega));exact yp hy
  rw[hg,hgl];refine⟨⟨k1,k2⟩,⟨k3,k4⟩,af (gP _ (show(n.zK b d (m.aL.getD i Pth.zero)).ed.length<=1048576 by omega)) rfl (.inl (bJ _)) ?_⟩;simp(config:={ maxSteps:=4000000 }) only[go_sem];refine⟨by rw[hal,List.length_take];omega,i+1,h3,by omega,?_⟩;rw[bT h3 Pth.zero,aH h3 (by simp only[maxLen];omega)];unfold Smp.fj;rw[List.map_append];rfl
 ·rw[show i=m.aL.length by omega,List.take_length]
end Go.D3
