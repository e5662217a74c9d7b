/- Long division of limbs: the guess of a limb. -/
import Derived.Laws.BitsLemmas
import Derived.WalkMore
import Derived.WalkSpells
import Derived.Laws.AppendOwn
import Derived.Maps.AppendAt
import Derived.Test.YtlbohjnfkhemlaaGreatTp1
set_option maxRecDepth 100000
set_option maxHeartbeats 16000000
namespace Go.Proofs.YtlbohjnfkhemlaaGreat
section
open Go.RowKit
theorem R9(n:Int)(h₀:0<=n)(h₁:n<2^64):IntKind.u64.wrap n=n:=by rw[IntKind.wrap_u64];omega
theorem Yg{n:Nat}(h:n<18446744073709551616):IntKind.u64.wrap (n:Int)=(n:Int):=by rw[IntKind.wrap_u64];omega
theorem SB(x y:Nat)(hx:x<4294967296)(hy:y<4294967296):bits .or .u64 ((x:Int)*4294967296) (y:Int)=((x*4294967296+y:Nat):Int):=by
 have h:=bits_join .u64 64 (by decide) R9 32 ((x:Int)*4294967296) (y:Int) (by omega) (by show(x:Int)*4294967296 % 4294967296=0;omega) (by show(x:Int)*4294967296<18446744073709551616;omega) (by omega) (by show(y:Int)<4294967296;omega) (by show(y:Int)<18446744073709551616;omega);rw[h];omega
theorem Ev{S:Nat->Prop}(vu vv:Value)(us vs:List Nat)(m:Nat)(w:World)(hu:U32s S w vu us)(hv:U32s S w vv vs)(_hS:∀k,S k->k<w.heap.size)(lu:us.length=m+3)(lv:vs.length=m+2)
  (hV1:2147483648<=dg vs (m+1)) (hle:dg us (m+2)<=dg vs (m+1)) :
  Calls Tryz.prog 136 #[vu,vv] w λ e w'=>∃q r:Nat,e=.returned (.int .u64 (q:Nat))/\Ext w w'/\q<Z9/\r+q*dg vs (m+1)=dg us (m+2)*Z9+dg us (m+1)/\q*dg vs m<=r*Z9+dg us m /\
   UW Z9 (dg us (m+2)*Z9+dg us (m+1)) (dg us m) (dg vs (m+1)) (dg vs m) q:=by
 obtain⟨u0,X⟩:=ZN (l:=us) (j:=m+2) (by omega);obtain⟨u1,ad⟩:=ZN (l:=us) (j:=m+1) (by omega);obtain⟨u2,ac⟩:=ZN (l:=us) (j:=m) (by omega);obtain⟨D,Z⟩:=ZN (l:=vs) (j:=m+1) (by omega);obtain⟨v2,aa⟩:=ZN (l:=vs) (j:=m) (by omega);rw[Zi X,Zi ad,Zi ac,Zi Z,Zi aa];rw[Zi Z]at hV1 hle;rw[Zi X]at hle;have aG:=hu.len_le;obtain⟨au,cu,rfl⟩:=hu.form;obtain⟨av,cv,rfl⟩:=hv.form;obtain⟨bu,ou,rfl,-,aA,hm1,-,ai,k0⟩:=hu.cellAt X;obtain⟨b',o',e1,-,-,-,-,ap,k1⟩:=hu.cellAt ad;obtain⟨rfl,rfl⟩:bu=b'/\ou=o':=by simpa using e1
 obtain⟨b',o',e2,-,-,-,-,ah,k2⟩:=hu.cellAt ac;obtain⟨rfl,rfl⟩:bu=b'/\ou=o':=by simpa using e2
 obtain⟨bv,ov,rfl,-,aq,hm2,-,ay,k3⟩:=hv.cellAt Z;obtain⟨b',o',e3,-,-,-,-,aC,k4⟩:=hv.cellAt aa;obtain⟨rfl,rfl⟩:bv=b'/\ov=o':=by simpa using e3
 rw[lu]at aA aG⊢;rw[lv]at aq⊢;have HK:=Z_ (zS k0 (zS k1 (zS k2 (zS k3 k4))));have q1:((m+2:Nat):Int)-1=((m+1:Nat):Int):=by omega
 have q2:((m+2:Nat):Int)-2=(m:Int):=by omega
 clear e1 e2 e3 hu hv lu lv X ad ac Z aa
 go_enter Tryz.func136,Tryz.ntmps136
 go_wp2;go_step3;go_wp2
 go_quiet (fail)
 rw[SB _ _ ai ap];obtain⟨z,U⟩:∃t,t=u0*4294967296+u1:=⟨_,rfl⟩
 have HT:=Z_ U;rw[<-U];have ht2:z<=18446744073709551615:=by omega
 have hv0:(D:Int)≠0:=by omega
 have ar:z / D<4294967298:=xu (by omega);have HQ0:=Z_ ar;have J:=Z_ (zS ai (zS ap (zS ah (zS ay aC))));clear U;go_wp2
 go_quiet (fail)
 go_wp2;go_step3;go_wp2
 go_loopw [7,8] (λ s7 s8 wr=>∃q r:Nat,s7=.int .u64 (q:Nat)/\s8=.int .u64 (r:Nat)/\Ext w wr/\r+q*D=z/\r<4294967296/\q<=4294967297/\UW Z9 z u2 D v2 q) (λ s7 _ _=>(intOf s7).toNat)
 case atStart=>
  refine⟨z / D,z % D,congrArg (Value.int .u64) (Yg (n:=z / D) (by omega)),rfl,((uP w).drewN _).drewN _,?_,?_,by omega,BT ah (by omega)⟩
  ·have:=xr z D;rw[zq];omega
  ·have:=yS z (show 0<D by omega);omega
 case round=>
  obtain⟨q,r,rfl,rfl,hx,ht,hr,hq,ae⟩:=hrel;have k0:=hx.cell HK.o.1;have k1:=hx.cell HK.o.2.1;have k2:=hx.cell HK.o.2.2.1;have k3:=hx.cell HK.o.2.2.2.1;have k4:=hx.cell HK.o.2.2.2.2;have HX:=Z_ hx;have K:=Z_ ht;have az:=Z_ ae;have HR:=Z_ (zS hr hq);clear hx ht ae hr hq
  by_cases h1:4294967296<=q
  ·have g1:decide ((4294967296:Int)<=(q:Int))=true:=decide_eq_true (by omega);have H1:=Z_ h1;clear h1;go_wp2;refine Zh (by kernel_rfl) (by kernel_rfl) ?_
   repeat (go_big_quiet_step (fail))
   refine wpQuiet_nil ?_;intro w4 y;have h1:=H1.o;have HC:=Z_ (Mx (B:=Z9) (u2:=u2) (v2:=v2) K.o (by omega) (.inl h1));have I:=Z_ (HX.o.trans y);have k3:=y.cell k3;have ax:(1:Int)<=(q:Int):=by omega
   have aH:(q:Int)<=4294967297:=by have:=HR.o.2;omega
   have ag:(r:Int)<4294967296:=by have:=HR.o.1;omega
   have HD:=Z_ (MF K.o (by omega));clear y g1 h1
   by_cases h3:(4294967296:Int)<=(r:Int)+(D:Int)
   ·go_wp2
    all_goals
     rw[Exit.noGoto_ret];go_ret;obtain⟨z1,z2⟩:=ND (u2:=u2) (v2:=v2) (B:=Z9) HD.o HT.o hle J.o.2.1 J.o.2.2.2.2 (by show 4294967296<=r+D;omega);refine⟨q-1,r+D,?_,I.o,z1,by rw[HD.o];exact HT.o,z2,by rw[<-HT.o];exact HC.o⟩;show Ending.returned (Value.int .u64 ((q:Int)-1))=_;rw[show((q-1:Nat):Int)=(q:Int)-1 by omega]
   ·go_wp2
    go_roundw
    case rel=>exact⟨q-1,r+D,congrArg (Value.int .u64) (by omega),congrArg (Value.int .u64) (by omega),I.o,HD.o,by omega,by omega,HC.o⟩
    case measure=>simp only[intOf];omega
  ·have g1:decide ((4294967296:Int)<=(q:Int))=false:=decide_eq_false (by omega);have H1:Hd (q<4294967296):=Z_ (by omega);obtain⟨P,hP⟩:∃P:Nat,P=q*v2:=⟨_,rfl⟩
   obtain⟨T,hT⟩:∃T:Nat,T=r*4294967296+u2:=⟨_,rfl⟩
   have aB:q*v2<=4294967295*4294967295:=yR (show q<=4294967295 by omega) (by have:=J.o.2.2.2.2;omega)
   have hw:IntKind.u64.wrap ((q:Int)*(v2:Int))=(P:Int):=by
    have e:(q:Int)*(v2:Int)=((q*v2:Nat):Int):=(yz q v2).symm;rw[e,<-hP];exact Yg (by omega)
   have al:bits .or .u64 ((r:Int)*4294967296) (u2:Int)=(T:Int):=by rw[SB r u2 HR.o.1 J.o.2.2.1,hT]
   have ag:(r:Int)<4294967296:=by have:=HR.o.1;omega
   have HP:=Z_ hP;have af:=Z_ hT;have m1:(0:Int)<=(m:Int)+2-2:=by omega
   clear h1 hP hT aB
   by_cases h2:T<P
   ·have L2:=λ Y:Later wr=>Y.h.cell k2;have L4:=λ Y:Later wr=>Y.h.cell k4;go_wp2;refine Zh (by kernel_rfl) (by kernel_rfl) ?_
    repeat (go_big_quiet_step (fail))
    refine wpQuiet_nil ?_;intro w4 y;have h1:=H1.o
    have aj:0<q:=by
     rcases zj q with h|h
     ·have h4:=HP.o;rw[h,yE]at h4;omega
     ·exact h
    have O:r*Z9+u2<q*v2:=by have h4:=HP.o;have h5:=af.o;show r*4294967296+u2<q*v2;omega
    have HC:=Z_ (Mx (B:=Z9) (u2:=u2) (v2:=v2) K.o aj (.inr O));have I:=Z_ (HX.o.trans y);have k3:=y.cell k3;have ax:(1:Int)<=(q:Int):=by omega
    have aH:(q:Int)<=4294967297:=by have:=HR.o.2;omega
    have ag:(r:Int)<4294967296:=by have:=HR.o.1;omega
    have HD:=Z_ (MF K.o (by omega));clear y g1 h1 hw al h2 aj O L2 L4
    by_cases h3:(4294967296:Int)<=(r:Int)+(D:Int)
    ·go_wp2
     all_goals
      rw[Exit.noGoto_ret];go_ret;obtain⟨z1,z2⟩:=ND (u2:=u2) (v2:=v2) (B:=Z9) HD.o HT.o hle J.o.2.1 J.o.2.2.2.2 (by show 4294967296<=r+D;omega);refine⟨q-1,r+D,?_,I.o,z1,by rw[HD.o];exact HT.o,z2,by rw[<-HT.o];exact HC.o⟩;show Ending.returned (Value.int .u64 ((q:Int)-1))=_;rw[show((q-1:Nat):Int)=(q:Int)-1 by omega]
    ·go_wp2
     go_roundw
     case rel=>exact⟨q-1,r+D,congrArg (Value.int .u64) (by omega),congrArg (Value.int .u64) (by omega),I.o,HD.o,by omega,by omega,HC.o⟩
     case measure=>simp only[intOf];omega
   ·have g2:decide (T<P)=false:=decide_eq_false h2;have L2:=λ Y:Later wr=>Y.h.cell k2;have L4:=λ Y:Later wr=>Y.h.cell k4;go_wp2;refine Zh (by kernel_rfl) (by kernel_rfl) ?_
    repeat (go_big_quiet_step (fail))
    refine wpQuiet_nil ?_;intro w4 y;have I:=Z_ (HX.o.trans y);have O:q*v2<=r*Z9+u2:=by have h4:=HP.o;have h5:=af.o;show q*v2<=r*4294967296+u2;omega
    have aF:=Z_ O;clear y g1 hw al O L2 L4;go_wp2
    all_goals
     rw[Exit.noGoto_ret];go_ret;exact⟨q,r,rfl,I.o,H1.o,by rw[K.o];exact HT.o,aF.o,by rw[<-HT.o];exact az.o⟩
end
section
open Go.RowKit
theorem NH(t:Nat)(ht:t<18446744073709551616):bits .and .u64 (t:Int) 4294967295=((t % 4294967296:Nat):Int):=by
 have h:=(bits_nat .u64 64 (by decide) R9 t 4294967295 (by omega) (by decide)).1;rw[show((4294967295:Nat):Int)=4294967295 from rfl]at h;rw[h]
 congr 1
 exact Nat.and_two_pow_sub_one_eq_mod t 32
theorem SU{w:World}{T:TypeId}{n g k:Nat}{o ps:List Nat}(h:w.rowIs g T n (rowU (ZF o k ps)))(hk:k+ps.length<o.length)(z:Nat) :
  (w.setCell ⟨g,k+ps.length,none⟩ (.int .u32 (z:Nat))).rowIs g T n (rowU (ZF o k (ps ++ [z]))):=by
 have y:=Vq h (k+ps.length) z (by rw[Sq (by omega)];exact hk)
 have e:(ZF o k ps).set (k+ps.length) z=ZF o k (ps ++ [z]):=by
  unfold ZF;have D:(o.take k++ps).length=k+ps.length:=by rw[zI,zD];omega
  rw[List.set_append,if_neg (by omega),D,xZ,yr hk,List.set_cons_zero,zI,List.length_singleton];simp[Nat.add_assoc]
 rwa [e]at y
theorem M4{o ps:List Nat}{k j:Nat}(hk:k+ps.length<=o.length)(hj:k+ps.length<=j):dg (ZF o k ps) j=dg o j:=by
 unfold ZF dg;have y:(o.take k++ps).length=k+ps.length:=by rw[zI,zD];omega
 rw[yI (by omega),y,yx,show k+ps.length+(j-(k+ps.length))=j by omega]
theorem PG(w:World)(r:Option Nat):w.grownBy w r:=⟨rfl,rfl,rfl,zR _,λ _ _ _=>rfl⟩
theorem S8{a w:World}{r:Option Nat}(h:a.grownBy w r){p:Addr}(hp:r=some p.block)(v:Value):a.grownBy (w.setCell p v) r:=⟨h.os,h.tape,h.output,by rw[z03];exact h.size,λ k hk hne=>(Below.heap_setCell _ _ _ _ (λ e=>hne (by rw[hp,e]))).trans (h.block k hk hne)⟩
theorem Pk(o:List Nat)(k:Nat):ZF o k []=o:=by simp[ZF]
theorem JY{S:Nat->Prop}{w:World}{g k n cap q:Nat}{o vs:List Nat}(vv:Value)(hrow:w.rowIs g 75 cap (rowU o))(ho:o.length<=cap)(hol:∀z∈o,z<Z9)(hkn:k+n<o.length)(hv:U32s S w vv vs)(hS:∀j,S j->j<w.heap.size/\j≠g)(lv:vs.length=n)(hq:q<Z9)(hcap:cap<=9223372036854775807) :
  Calls Tryz.prog 137 #[.slice (some ⟨g,k,none⟩) (n+1) (n+1),vv,.int .u64 (q:Nat)] w λ e w'=>∃(ps:List Nat) (b:Nat),e=.returned (.bool (decide (b=1)))/\b<=1/\ps.length=n+1/\(∀z∈ps,z<Z9)/\val Z9 ps+q*val Z9 vs=val Z9 (Y6 o k n)+Z9^(n+1)*b /\
   w'.rowIs g 75 cap (rowU (ZF o k ps))/\w.grownBy w' (some g)/\w'.heap.size=w.heap.size:=by
 have hnb:n+1<=9223372036854775807:=by omega
 have ah:=Z_ hrow;have au:=Z_ hol;have Z:=Z_ (zS ho hkn);have HV:=Z_ hv;have HQ:=Z_ hq;have ap:=hv.len_le;obtain⟨av,cv,rfl⟩:=hv.form;rw[lv]at HV ap⊢;have ae:=Z_ lv;clear hrow hol hv ho hq lv
 go_enter Tryz.func137,Tryz.ntmps137
 go_wp2
 go_loopw [7,8,14] (λ s7 s8 s14 wr=>∃(i c b:Nat) (ps:List Nat),s7=.int .u64 (c:Nat)/\s8=.int .u64 (b:Nat)/\s14=.int .i64 (i:Nat)/\i<=n+1/\Hd (c<4294967296/\b<=1/\(n<i->c=0)/\ps.length=i/\(∀z∈ps,z<Z9)/\val Z9 ps+q*val Z9 (vs.take i)=val Z9 ((Y6 o k n).take i)+Z9^i*(b+c)) /\
  wr.rowIs g 75 cap (rowU (ZF o k ps))/\w.grownBy wr (some g)/\wr.heap.size=w.heap.size) (λ _ _ s14 _=>n+1-(intOf s14).toNat)
 case atStart=>exact⟨0,0,0,[],rfl,rfl,rfl,zL _,Z_ ⟨by decide,by decide,λ h=>rfl,rfl,by simp,by simp[val]⟩,by rw[Pk];exact ah.o,PG _ _,rfl⟩
 case round=>
  obtain⟨i,c,b,ps,rfl,rfl,rfl,hi,y,hrow,aj,ai⟩:=hrel;have HR:=Z_ hrow;have HG:=Z_ (zS aj ai);clear hrow aj ai
  by_cases ag:i<n+1
  ·obtain⟨u,hu⟩:∃u,u=dg (Y6 o k n) i:=⟨_,rfl⟩
   have X:u<4294967296:=by rw[hu,TH ag];exact TX (by decide) au.o _
   have hcu:wr.cell? ⟨g,k+i,none⟩=some (.int .u32 (u:Nat)):=by
    have O:=HR.o.cell (i:=k+i) (by have:=Z.o;omega);rw[O,hu,TH ag];have U:=M4 (o:=o) (ps:=ps) (k:=k) (j:=k+i) (by have:=y.o.2.2.2.1;omega) (by have:=y.o.2.2.2.1;omega);show some (Value.int .u32 (dg (ZF o k ps) (k+i):Nat))=_;rw[U]
   have hfu:=HR.o.frozen (k+i);have HU:=Z_ hu
   by_cases aq:i<n
   ·obtain⟨x,hx⟩:=ZN (l:=vs) (j:=i) (by rw[ae.o];exact aq);obtain⟨b1,o1,rfl,-,hn1,hm1,-,hxl,hcx⟩:=(HV.o.to (S':=S) (λ j hj=>HG.o.1.block j (hS j hj).1 (λ e=>(hS j hj).2 (Option.some.inj e))) (λ _ h=>h)).cellAt hx;have HX:=Z_ (Zi hx);obtain⟨P,hP⟩:∃P:Nat,P=q*x:=⟨_,rfl⟩
    have ar:P<=4294967295*4294967295:=by rw[hP];exact yR (by have h:q<4294967296:=HQ.o;omega) (by omega)
    have hw1:IntKind.u64.wrap ((q:Int)*(x:Int))=(P:Int):=by
     have e:(q:Int)*(x:Int)=((q*x:Nat):Int):=(yz q x).symm;rw[e,<-hP];exact Yg (by omega)
    obtain⟨t,ht⟩:∃t:Nat,t=c+P:=⟨_,rfl⟩
    have D:t<18446744073709551616:=by have:=y.o.1;omega
    have hw2:IntKind.u64.wrap ((c:Int)+(P:Int))=(t:Int):=by rw[<-wG,<-ht];exact Yg D
    obtain⟨lo,I⟩:∃lo:Nat,lo=t % 4294967296:=⟨_,rfl⟩
    have al:bits .and .u64 (t:Int) 4294967295=(lo:Int):=by rw[NH t D,I]
    have HP:=Z_ hP;have HT:=Z_ ht;have K:=Z_ I;have aa:=Z_ D;have ac:=Z_ X;clear hx hu hP ar ht I D X
    obtain⟨J,d,ad,hd,e1,e2,af⟩:∃J d:Nat,J<=1/\d<4294967296/\IntKind.u64.wrap (IntKind.u64.wrap (IntKind.u64.wrap (u:Int)-(lo:Int))-(b:Int)) / 9223372036854775808=(J:Int)/\IntKind.u64.wrap (IntKind.u64.wrap (IntKind.u64.wrap (u:Int)-(lo:Int))-(b:Int)) % 4294967296=(d:Int)/\b+lo+d=u+4294967296*J:=by
     have O:=ac.o;have U:=y.o.2.1;have h3:lo<4294967296:=by rw[K.o];exact yS _ (by decide)
     simp only[IntKind.wrap_u64]
     by_cases hs:lo+b<=u
     ·exact⟨0,u-lo-b,by omega,by omega,by omega,by omega,by omega⟩
     ·exact⟨1,u+4294967296-lo-b,by omega,by omega,by omega,by omega,by omega⟩
    go_wp2
    go_roundw
    case rel=>
     refine⟨i+1,t / 4294967296,J,ps ++ [d],congrArg (Value.int .u64) (by omega),rfl,by go_num,by omega,Z_ ⟨by have O:=aa.o;omega,ad,(λ h=>by omega),by simp[y.o.2.2.2.1],?_,?_⟩,?_,S8 HG.o.1 rfl _,by rw[z03];exact HG.o.2⟩
     ·intro z hz
      rcases zC.1 hz with h|h
      ·exact y.o.2.2.2.2.1 z h
      ·rw[zQ.1 h];exact hd
     ·exact Nh y.o.2.2.2.1 y.o.2.2.2.2.2 HX.o HU.o.symm (by
       have O:=HP.o;have U:=HT.o;have h3:=K.o;show b+c+q*x+d=u+4294967296*(J+t / 4294967296)
       omega)
     ·have O:=SU HR.o (by have U:=y.o.2.2.2.1;have h3:=Z.o;omega) d
      rwa [y.o.2.2.2.1]at O
    case measure=>simp only[intOf];omega
   ·obtain rfl:i=n:=by omega
    obtain⟨t,ht⟩:∃t:Nat,t=c:=⟨_,rfl⟩
    obtain⟨lo,I⟩:∃lo:Nat,lo=t % 4294967296:=⟨_,rfl⟩
    have D:t<18446744073709551616:=by have:=y.o.1;omega
    have al:bits .and .u64 (c:Int) 4294967295=(lo:Int):=by rw[<-ht,NH t D,I]
    have HX:Hd (dg vs i=0):=Z_ (Yv (by rw[ae.o];exact zR _));have hc64:IntKind.u64.wrap (c:Int)=(c:Int):=Yg (by have:=y.o.1;omega);have HT:=Z_ ht;have K:=Z_ I;have aa:=Z_ D;have ac:=Z_ X;have ax:Hd (t / 4294967296=0):=Z_ (by have:=y.o.1;omega);clear hu ht I D X
    obtain⟨J,d,ad,hd,e1,e2,af⟩:∃J d:Nat,J<=1/\d<4294967296/\IntKind.u64.wrap (IntKind.u64.wrap (IntKind.u64.wrap (u:Int)-(lo:Int))-(b:Int)) / 9223372036854775808=(J:Int)/\IntKind.u64.wrap (IntKind.u64.wrap (IntKind.u64.wrap (u:Int)-(lo:Int))-(b:Int)) % 4294967296=(d:Int)/\b+lo+d=u+4294967296*J:=by
     have O:=ac.o;have U:=y.o.2.1;have h3:lo<4294967296:=by rw[K.o];exact yS _ (by decide)
     simp only[IntKind.wrap_u64]
     by_cases hs:lo+b<=u
     ·exact⟨0,u-lo-b,by omega,by omega,by omega,by omega,by omega⟩
     ·exact⟨1,u+4294967296-lo-b,by omega,by omega,by omega,by omega,by omega⟩
    go_wp2
    go_roundw
    case rel=>
     refine⟨i+1,t / 4294967296,J,ps ++ [d],congrArg (Value.int .u64) (by have:=HT.o;omega),rfl,by go_num,by omega,Z_ ⟨by have O:=aa.o;omega,ad,(λ h=>ax.o),by simp[y.o.2.2.2.1],?_,?_⟩,?_,S8 HG.o.1 rfl _,by rw[z03];exact HG.o.2⟩
     ·intro z hz
      rcases zC.1 hz with h|h
      ·exact y.o.2.2.2.2.1 z h
      ·rw[zQ.1 h];exact hd
     ·exact Nh y.o.2.2.2.1 y.o.2.2.2.2.2 HX.o HU.o.symm (by
       have U:=HT.o;have h3:=K.o;show b+c+q*0+d=u+4294967296*(J+t / 4294967296)
       omega)
     ·have O:=SU HR.o (by have U:=y.o.2.2.2.1;have h3:=Z.o;omega) d
      rwa [y.o.2.2.2.1]at O
    case measure=>simp only[intOf];omega
  ·obtain rfl:i=n+1:=by omega
   go_wp2
   all_goals
    go_ret;obtain⟨O,U,h3,h4,h5,h6⟩:=y.o;have ay:=h3 (by omega);rw[ay,zp,zN (by rw[ae.o];omega),zN (by rw[Wb Z.o.2];exact zR _)]at h6;refine⟨ps,b,?_,U,h4,h5,h6,HR.o,HG.o⟩;show Ending.returned (Value.bool ((b:Int) == 1))=_;rcases(show b=0∨b=1 by omega) with rfl|rfl<;>rfl
theorem Ar{S:Nat->Prop}{w:World}{g k n cap:Nat}{o vs:List Nat}(vv:Value)(hrow:w.rowIs g 75 cap (rowU o))(ho:o.length<=cap)(hol:∀z∈o,z<Z9)(hkn:k+n<o.length)(hv:U32s S w vv vs)(hS:∀j,S j->j<w.heap.size/\j≠g)(lv:vs.length=n)(hcap:cap<=9223372036854775807) :
  Calls Tryz.prog 138 #[.slice (some ⟨g,k,none⟩) (n+1) (n+1),vv] w λ e w'=>∃ps:List Nat,e=.returned (.tuple #[])/\ps.length=n+1/\(∀z∈ps,z<Z9)/\val Z9 ps=(val Z9 (Y6 o k n)+val Z9 vs) % Z9^(n+1) /\
   w'.rowIs g 75 cap (rowU (ZF o k ps))/\w.grownBy w' (some g)/\w'.heap.size=w.heap.size:=by
 have hnb:n+1<=9223372036854775807:=by omega
 have ad:=Z_ hrow;have ap:=Z_ hol;have K:=Z_ (zS ho hkn);have HV:=Z_ hv;have ai:=hv.len_le;obtain⟨av,cv,rfl⟩:=hv.form;rw[lv]at HV ai⊢;have U:=Z_ lv;clear hrow hol hv ho lv
 go_enter Tryz.func138,Tryz.ntmps138
 go_wp2
 go_loopw [4,8] (λ s4 s8 wr=>∃(i c:Nat) (ps:List Nat),s4=.int .u64 (c:Nat)/\s8=.int .i64 (i:Nat)/\i<=n+1/\Hd (c<=1/\ps.length=i/\(∀z∈ps,z<Z9)/\val Z9 ps+Z9^i*c=val Z9 ((Y6 o k n).take i)+val Z9 (vs.take i)) /\
  wr.rowIs g 75 cap (rowU (ZF o k ps))/\w.grownBy wr (some g)/\wr.heap.size=w.heap.size) (λ _ s8 _=>n+1-(intOf s8).toNat)
 case atStart=>exact⟨0,0,[],rfl,rfl,zL _,Z_ ⟨by decide,rfl,by simp,by simp[val]⟩,by rw[Pk];exact ad.o,PG _ _,rfl⟩
 case round=>
  obtain⟨i,c,ps,rfl,rfl,hi,y,hrow,ag,ae⟩:=hrel;have HR:=Z_ hrow;have X:=Z_ (zS ag ae);clear hrow ag ae
  by_cases ac:i<n+1
  ·obtain⟨u,hu⟩:∃u,u=dg (Y6 o k n) i:=⟨_,rfl⟩
   have af:u<4294967296:=by rw[hu,TH ac];exact TX (by decide) ap.o _
   have hcu:wr.cell? ⟨g,k+i,none⟩=some (.int .u32 (u:Nat)):=by
    have I:=HR.o.cell (i:=k+i) (by have:=K.o;omega);rw[I,hu,TH ac];have D:=M4 (o:=o) (ps:=ps) (k:=k) (j:=k+i) (by have:=y.o.2.1;omega) (by have:=y.o.2.1;omega);show some (Value.int .u32 (dg (ZF o k ps) (k+i):Nat))=_;rw[D]
   have hfu:=HR.o.frozen (k+i);have HU:=Z_ hu;have J:=Z_ af;obtain⟨P,hP⟩:∃P:Nat,P=c+u:=⟨_,rfl⟩
   have hw1:IntKind.u64.wrap ((c:Int)+(u:Int))=(P:Int):=by rw[<-wG,<-hP];exact Yg (by have:=y.o.1;omega)
   have hu64:IntKind.u64.wrap (u:Int)=(u:Int):=Yg (by omega);have HP:=Z_ hP;clear hu af hP
   by_cases al:i<n
   ·obtain⟨x,hx⟩:=ZN (l:=vs) (j:=i) (by rw[U.o];exact al);obtain⟨b1,o1,rfl,-,hn1,hm1,-,aa,hcx⟩:=(HV.o.to (S':=S) (λ j hj=>X.o.1.block j (hS j hj).1 (λ e=>(hS j hj).2 (Option.some.inj e))) (λ _ h=>h)).cellAt hx;have HX:=Z_ (Zi hx);have hx64:IntKind.u64.wrap (x:Int)=(x:Int):=Yg (by omega);obtain⟨t,Z⟩:∃t:Nat,t=P+x:=⟨_,rfl⟩
    have ah:t<18446744073709551616:=by have I:=y.o.1;have D:=J.o;have O:=HP.o;omega
    have hw2:IntKind.u64.wrap ((P:Int)+(x:Int))=(t:Int):=by rw[<-wG,<-Z];exact Yg ah
    have HT:=Z_ Z;have aj:=Z_ aa;clear hx aa Z ah;go_wp2
    go_roundw
    case rel=>
     refine⟨i+1,t / 4294967296,ps ++ [t % 4294967296],rfl,by go_num,by omega,Z_ ⟨by have I:=y.o.1;have D:=J.o;have O:=HP.o;have h4:=HT.o;have h5:=aj.o;omega,by simp[y.o.2.1],?_,?_⟩,?_,S8 X.o.1 rfl _,by rw[z03];exact X.o.2⟩
     ·intro z hz
      rcases zC.1 hz with h|h
      ·exact y.o.2.2.1 z h
      ·rw[zQ.1 h];exact yS _ (by decide)
     ·have I:=M5 (B:=Z9) y.o.2.1 y.o.2.2.2 HX.o HU.o.symm;have D:c+u+x=t:=by rw[HT.o,HP.o]
      rwa [D]at I
     ·have I:=SU HR.o (by have D:=y.o.2.1;have O:=K.o;omega) (t % 4294967296)
      rwa [y.o.2.1]at I
    case measure=>simp only[intOf];omega
   ·obtain rfl:i=n:=by omega
    have HX:Hd (dg vs i=0):=Z_ (Yv (by rw[U.o];exact zR _));obtain⟨t,Z⟩:∃t:Nat,t=P:=⟨_,rfl⟩
    have HT:Hd (t=P+0):=Z_ Z;have hc64:IntKind.u64.wrap (P:Int)=(P:Int):=Yg (by have I:=y.o.1;have D:=J.o;have O:=HP.o;omega);subst Z;go_wp2
    go_roundw
    case rel=>
     refine⟨i+1,t / 4294967296,ps ++ [t % 4294967296],rfl,by go_num,by omega,Z_ ⟨by have I:=y.o.1;have D:=J.o;have O:=HP.o;have h4:=HT.o;omega,by simp[y.o.2.1],?_,?_⟩,?_,S8 X.o.1 rfl _,by rw[z03];exact X.o.2⟩
     ·intro z hz
      rcases zC.1 hz with h|h
      ·exact y.o.2.2.1 z h
      ·rw[zQ.1 h];exact yS _ (by decide)
     ·have I:=M5 (B:=Z9) y.o.2.1 y.o.2.2.2 HX.o HU.o.symm;have D:c+u+0=t:=by rw[HT.o,HP.o]
      rwa [D]at I
     ·have I:=SU HR.o (by have D:=y.o.2.1;have O:=K.o;omega) (t % 4294967296)
      rwa [y.o.2.1]at I
    case measure=>simp only[intOf];omega
  ·obtain rfl:i=n+1:=by omega
   go_wp2
   all_goals
    first|go_end0|refine bodyPost_ret (results_none rfl _ _ _) rfl ?_
    obtain⟨I,D,O,h4⟩:=y.o;rw[zN (by rw[Wb K.o.2];exact zR _),zN (by rw[U.o];omega)]at h4;have h5:=Y4 (B:=Z9) ps O;rw[D]at h5;refine⟨ps,rfl,D,O,?_,HR.o,X.o⟩;rw[<-h4,xx,yB h5]
end
section
open Go.RowKit
theorem Eh{S:Nat->Prop}(va vb:Value)(xs ys:List Nat)(w:World)(ha:U32s S w va xs)(hb:U32s S w vb ys)(hS:∀k,S k->k<w.heap.size)(hr:xs.length<=50000000000000)(hle:ys.length<=xs.length) :
  Calls Tryz.prog 98 #[va,vb] w λ e w'=>∃v',e=.returned v'/\U32s (New w w') w' v' (Z4 Z9 (val Z9 xs+val Z9 ys))/\Ext w w':=by
 have HA:=Z_ ha;have HB:=Z_ hb;obtain⟨aa,ca,rfl⟩:=ha.form;obtain⟨ab,cb,rfl⟩:=hb.form;clear ha hb;have aj:=run_make_row' (P:=Tryz.prog) 26 75 (.int .u32 0) 4 Tryz.underlying26 uC rfl .i64 .i64 (xs.length+1) (by omega) (by omega) w;rw[show((xs.length+1:Nat):Int)=(xs.length:Int)+1 by omega]at aj;have hz:w.heap.size<(w.alloc (.cells (madeCells #[.int .u32 0] (xs.length+1)) 75)).heap.size:=by simp
 have HR:=Z_ (Qf w (xs.length+1) 75);have HE:=Z_ (uO (uP w) (.cells (madeCells #[.int .u32 0] (xs.length+1)) 75))
 go_enter Tryz.func98,Tryz.ntmps98
 go_wp2
 go_loopw [6,21] (λ c i wr=>∃(k K:Nat) (o:List Nat),k<=xs.length+1/\i=.int .i64 k/\c=.int .u64 K/\K<=1/\o.length=k/\Hd (∀z∈o,z<Z9)/\wr.rowIs w.heap.size 75 (xs.length+1) (rowU o)/\Ext w wr /\
  val Z9 o+Z9^k*K=val Z9 (xs.take k)+val Z9 (ys.take k)) (λ _ i _=>xs.length+1-(intOf i).toNat)
 case atStart=>exact⟨0,0,[],zL _,rfl,rfl,by omega,rfl,Z_ (by simp),HR.o,HE.o,by simp[val]⟩
 case round=>
  obtain⟨k,K,o,hk,rfl,rfl,hcc,O,HO,D,Z,hv⟩:=hrel
  by_cases ai:k<xs.length
  ·obtain⟨x,ad⟩:=ZN ai;obtain⟨b1,o1,rfl,-,hn1,hm1,-,hxb,hc1⟩:=(HA.o.to (uM Z hS) (λ _ h=>h)).cellAt ad;have al:=D.cell (i:=k) (by omega);have ag:=D.frozen k;have af:=Z_ ad;have J:=Z_ D;have HX:=Z_ Z;have HV:=Z_ hv;have I:=Z_ O;clear ad D Z hv O
   by_cases ae:k<ys.length
   ·obtain⟨y,ac⟩:=ZN ae;obtain⟨b2,o2,rfl,-,hn2,hm2,-,hyb,hc2⟩:=(HB.o.to (uM HX.o hS) (λ _ h=>h)).cellAt ac;have ah:=Z_ ac;clear ac;go_wp2
    go_roundw
    case rel=>
     refine⟨k+1,(K+(x+y)) / 4294967296,o ++ [(K+(x+y)) % 4294967296],by omega,by go_num,congrArg (Value.int .u64) (by omega),by omega,by simp[I.o],?_,?_,HX.o.setCell (p:=⟨w.heap.size,k,none⟩) (zR _) _,?_⟩
     ·refine Z_ (λ z hz=>?_)
      rcases zC.1 hz with h|h
      ·exact HO.o z h
      ·rw[zQ.1 h];exact yS _ (by decide)
     ·have U:=WX J.o ((K+(x+y)) % 4294967296);rw[I.o]at U;refine cast (congrArg (λ e=>World.rowIs (World.setCell wr ⟨w.heap.size,k,none⟩ (Value.int .u32 e)) _ _ _ _) ?_) U;omega
     ·exact Wm I.o HV.o ((x+y)) (by rw[Zi af.o,Zi ah.o])
    case measure=>simp only[intOf];omega
   ·go_wp2
    go_roundw
    case rel=>
     refine⟨k+1,(K+(x+0)) / 4294967296,o ++ [(K+(x+0)) % 4294967296],by omega,by go_num,congrArg (Value.int .u64) (by omega),by omega,by simp[I.o],?_,?_,HX.o.setCell (p:=⟨w.heap.size,k,none⟩) (zR _) _,?_⟩
     ·refine Z_ (λ z hz=>?_)
      rcases zC.1 hz with h|h
      ·exact HO.o z h
      ·rw[zQ.1 h];exact yS _ (by decide)
     ·have U:=WX J.o ((K+(x+0)) % 4294967296);rw[I.o]at U;refine cast (congrArg (λ e=>World.rowIs (World.setCell wr ⟨w.heap.size,k,none⟩ (Value.int .u32 e)) _ _ _ _) ?_) U;omega
     ·exact Wm I.o HV.o ((x+0)) (by rw[Zi af.o,Yv (l:=ys) (by omega)])
    case measure=>simp only[intOf];omega
  ·by_cases X:k=xs.length
   ·have al:=D.cell (i:=k) (by omega);have ag:=D.frozen k;have J:=Z_ D;have HX:=Z_ Z;have HV:=Z_ hv;have I:=Z_ O;have hge:ys.length<=k:=by omega
    have HK:=Z_ X;have hk2:k<xs.length+1:=by omega
    have hk3:xs.length<=k:=by omega
    clear D Z hv O X;go_wp2
    go_roundw
    case rel=>
     refine⟨k+1,(K+(0+0)) / 4294967296,o ++ [(K+(0+0)) % 4294967296],by omega,by go_num,congrArg (Value.int .u64) (by omega),by omega,by simp[I.o],?_,?_,HX.o.setCell (p:=⟨w.heap.size,k,none⟩) (zR _) _,?_⟩
     ·refine Z_ (λ z hz=>?_)
      rcases zC.1 hz with h|h
      ·exact HO.o z h
      ·rw[zQ.1 h];exact yS _ (by decide)
     ·have U:=WX J.o ((K+(0+0)) % 4294967296);rw[I.o]at U;refine cast (congrArg (λ e=>World.rowIs (World.setCell wr ⟨w.heap.size,k,none⟩ (Value.int .u32 e)) _ _ _ _) ?_) U;omega
     ·exact Wm I.o HV.o ((0+0)) (by rw[Yv (l:=xs) (by omega),Yv (l:=ys) (by omega)])
    case measure=>simp only[intOf];omega
   ·obtain rfl:k=xs.length+1:=by omega
    have HX:=Z_ Z;have J:=Z_ D;have HV:=Z_ (K2 ZU HA.o.lt HB.o.lt hle hv);have I:=Z_ O;clear Z D hv O
    have hu:U32s (λ k=>k=w.heap.size) wr (.slice (some ⟨w.heap.size,0,none⟩) (xs.length+1) (xs.length+1)) o:=by
     have U:=uA J.o (by have:=I.o;omega) HO.o (by omega)
     rwa [I.o]at U
    have HU:=Z_ hu;clear hu;go_wp2_with fail;refine(Xo _ o _ HU.o).mono ?_;rintro e w' ⟨v',rfl,hu,rfl⟩;have H:=Z_ hu;clear hu;go_wp2
    all_goals
     go_ret;refine⟨_,rfl,?_,HX.o⟩;rw[<-HV.o];refine H.o.to (uN _ _) (λ k hk=>?_);subst hk;exact⟨zR _,J.o.lt⟩
theorem G9{S:Nat->Prop}(va vb:Value)(xs ys:List Nat)(w:World)(ha:U32s S w va xs)(hb:U32s S w vb ys)(hS:∀k,S k->k<w.heap.size)(hr:ys.length<=50000000000000)(hle:xs.length<ys.length) :
  Calls Tryz.prog 98 #[va,vb] w λ e w'=>∃v',e=.returned v'/\U32s (New w w') w' v' (Z4 Z9 (val Z9 xs+val Z9 ys))/\Ext w w':=by
 have HB:=Z_ hb;have HA:=Z_ ha;obtain⟨aa,ca,rfl⟩:=ha.form;obtain⟨ab,cb,rfl⟩:=hb.form;clear ha hb;have aj:=run_make_row' (P:=Tryz.prog) 26 75 (.int .u32 0) 4 Tryz.underlying26 uC rfl .i64 .i64 (ys.length+1) (by omega) (by omega) w;rw[show((ys.length+1:Nat):Int)=(ys.length:Int)+1 by omega]at aj;have hz:w.heap.size<(w.alloc (.cells (madeCells #[.int .u32 0] (ys.length+1)) 75)).heap.size:=by simp
 have HR:=Z_ (Qf w (ys.length+1) 75);have HE:=Z_ (uO (uP w) (.cells (madeCells #[.int .u32 0] (ys.length+1)) 75))
 go_enter Tryz.func98,Tryz.ntmps98
 go_wp2
 go_loopw [6,21] (λ c i wr=>∃(k K:Nat) (o:List Nat),k<=ys.length+1/\i=.int .i64 k/\c=.int .u64 K/\K<=1/\o.length=k/\Hd (∀z∈o,z<Z9)/\wr.rowIs w.heap.size 75 (ys.length+1) (rowU o)/\Ext w wr /\
  val Z9 o+Z9^k*K=val Z9 (ys.take k)+val Z9 (xs.take k)) (λ _ i _=>ys.length+1-(intOf i).toNat)
 case atStart=>exact⟨0,0,[],zL _,rfl,rfl,by omega,rfl,Z_ (by simp),HR.o,HE.o,by simp[val]⟩
 case round=>
  obtain⟨k,K,o,hk,rfl,rfl,hcc,O,HO,D,Z,hv⟩:=hrel
  by_cases ai:k<ys.length
  ·obtain⟨x,ad⟩:=ZN ai;obtain⟨b1,o1,rfl,-,hn1,hm1,-,hxb,hc1⟩:=(HB.o.to (uM Z hS) (λ _ h=>h)).cellAt ad;have al:=D.cell (i:=k) (by omega);have ag:=D.frozen k;have af:=Z_ ad;have J:=Z_ D;have HX:=Z_ Z;have HV:=Z_ hv;have I:=Z_ O;clear ad D Z hv O
   by_cases ae:k<xs.length
   ·obtain⟨y,ac⟩:=ZN ae;obtain⟨b2,o2,rfl,-,hn2,hm2,-,hyb,hc2⟩:=(HA.o.to (uM HX.o hS) (λ _ h=>h)).cellAt ac;have ah:=Z_ ac;clear ac;go_wp2
    go_roundw
    case rel=>
     refine⟨k+1,(K+(x+y)) / 4294967296,o ++ [(K+(x+y)) % 4294967296],by omega,by go_num,congrArg (Value.int .u64) (by omega),by omega,by simp[I.o],?_,?_,HX.o.setCell (p:=⟨w.heap.size,k,none⟩) (zR _) _,?_⟩
     ·refine Z_ (λ z hz=>?_)
      rcases zC.1 hz with h|h
      ·exact HO.o z h
      ·rw[zQ.1 h];exact yS _ (by decide)
     ·have U:=WX J.o ((K+(x+y)) % 4294967296);rw[I.o]at U;refine cast (congrArg (λ e=>World.rowIs (World.setCell wr ⟨w.heap.size,k,none⟩ (Value.int .u32 e)) _ _ _ _) ?_) U;omega
     ·exact Wm I.o HV.o ((x+y)) (by rw[Zi af.o,Zi ah.o])
    case measure=>simp only[intOf];omega
   ·go_wp2
    go_roundw
    case rel=>
     refine⟨k+1,(K+(x+0)) / 4294967296,o ++ [(K+(x+0)) % 4294967296],by omega,by go_num,congrArg (Value.int .u64) (by omega),by omega,by simp[I.o],?_,?_,HX.o.setCell (p:=⟨w.heap.size,k,none⟩) (zR _) _,?_⟩
     ·refine Z_ (λ z hz=>?_)
      rcases zC.1 hz with h|h
      ·exact HO.o z h
      ·rw[zQ.1 h];exact yS _ (by decide)
     ·have U:=WX J.o ((K+(x+0)) % 4294967296);rw[I.o]at U;refine cast (congrArg (λ e=>World.rowIs (World.setCell wr ⟨w.heap.size,k,none⟩ (Value.int .u32 e)) _ _ _ _) ?_) U;omega
     ·exact Wm I.o HV.o ((x+0)) (by rw[Zi af.o,Yv (l:=xs) (by omega)])
    case measure=>simp only[intOf];omega
  ·by_cases X:k=ys.length
   ·have al:=D.cell (i:=k) (by omega);have ag:=D.frozen k;have J:=Z_ D;have HX:=Z_ Z;have HV:=Z_ hv;have I:=Z_ O;have hge:xs.length<=k:=by omega
    have HK:=Z_ X;have hk2:k<ys.length+1:=by omega
    have hk3:ys.length<=k:=by omega
    clear D Z hv O X;go_wp2
    go_roundw
    case rel=>
     refine⟨k+1,(K+(0+0)) / 4294967296,o ++ [(K+(0+0)) % 4294967296],by omega,by go_num,congrArg (Value.int .u64) (by omega),by omega,by simp[I.o],?_,?_,HX.o.setCell (p:=⟨w.heap.size,k,none⟩) (zR _) _,?_⟩
     ·refine Z_ (λ z hz=>?_)
      rcases zC.1 hz with h|h
      ·exact HO.o z h
      ·rw[zQ.1 h];exact yS _ (by decide)
     ·have U:=WX J.o ((K+(0+0)) % 4294967296);rw[I.o]at U;refine cast (congrArg (λ e=>World.rowIs (World.setCell wr ⟨w.heap.size,k,none⟩ (Value.int .u32 e)) _ _ _ _) ?_) U;omega
     ·exact Wm I.o HV.o ((0+0)) (by rw[Yv (l:=ys) (by omega),Yv (l:=xs) (by omega)])
    case measure=>simp only[intOf];omega
   ·obtain rfl:k=ys.length+1:=by omega
    have HX:=Z_ Z;have J:=Z_ D;have HV:=Z_ (K2 ZU HB.o.lt HA.o.lt (by omega) hv);have I:=Z_ O;clear Z D hv O
    have hu:U32s (λ k=>k=w.heap.size) wr (.slice (some ⟨w.heap.size,0,none⟩) (ys.length+1) (ys.length+1)) o:=by
     have U:=uA J.o (by have:=I.o;omega) HO.o (by omega)
     rwa [I.o]at U
    have HU:=Z_ hu;clear hu;go_wp2_with fail;refine(Xo _ o _ HU.o).mono ?_;rintro e w' ⟨v',rfl,hu,rfl⟩;have H:=Z_ hu;clear hu;go_wp2
    all_goals
     go_ret;refine⟨_,rfl,?_,HX.o⟩;rw[xY (val Z9 xs),<-HV.o];refine H.o.to (uN _ _) (λ k hk=>?_);subst hk;exact⟨zR _,J.o.lt⟩
theorem Q_{S:Nat->Prop}(va vb:Value)(xs ys:List Nat)(w:World)(ha:U32s S w va xs)(hb:U32s S w vb ys)(hS:∀k,S k->k<w.heap.size)(hr:xs.length<=50000000000000)(hr2:ys.length<=50000000000000) :
  Calls Tryz.prog 98 #[va,vb] w λ e w'=>∃v',e=.returned v'/\U32s (New w w') w' v' (Z4 Z9 (val Z9 xs+val Z9 ys))/\Ext w w':=by
 by_cases h:xs.length<ys.length
 ·exact G9 va vb xs ys w ha hb hS hr2 h
 ·exact Eh va vb xs ys w ha hb hS hr (by omega)
end
section
open Go.RowKit
def IntV(S:Nat->Prop)(w:World)(v:Value)(r:RInt):Prop:=∃vm,v=.agg #[.bool r.neg,vm]/\U32s S w vm r.mag
theorem IntV.to{S S':Nat->Prop}{w w':World}{v:Value}{r:RInt}(h:IntV S w v r)(hk:Kept S w w')(hS:∀k,S k->S' k):IntV S' w' v r:=by
 obtain⟨vm,h1,h2⟩:=h;exact⟨vm,h1,h2.to hk hS⟩
def sg(b:Bool)(n:Nat):Int:=if b then -(n:Int) else(n:Int)
theorem zza(b:Bool)(n:Nat):Z8 (sg b n)=⟨b && decide (0<(Z4 Z9 n).length),Z4 Z9 n⟩:=by
 have y:0<(Z4 Z9 n).length↔n≠0:=by
  rw[yF,Ne,WG ZU]
 unfold Z8 sg
 cases b with
 |false=>simp
 |true=>
  simp only[if_true,xv,y7,Bool.true_and,RInt.mk.injEq,and_true];rw[decide_eq_decide,y];omega
theorem Ext.new_cell{w W:World}{cs:Array Value}{T:TypeId}(h:Ext (w.alloc (.cells cs T)) W){i:Nat}{v:Value}(hv:cs[i]? = some v):W.cell? ⟨w.heap.size,i,none⟩=some v:=h.cell (ZJ w cs T rfl hv)
theorem Ext.new_free{w W:World}{cs:Array Value}{T:TypeId}(h:Ext (w.alloc (.cells cs T)) W)(i:Nat):W.frozen? ⟨w.heap.size,i,none⟩=false:=h.free (by simp) (Vt w cs T)
theorem YY{w:World}{b:Nat}{u0 u1:Value}(x y:Value)(c0:w.cell? ⟨b,0,none⟩=some u0)(c1:w.cell? ⟨b,1,none⟩=some u1) :
  ((w.setCell ⟨b,0,none⟩ x).setCell ⟨b,1,none⟩ y).cell? ⟨b,0,none⟩=some x/\((w.setCell ⟨b,0,none⟩ x).setCell ⟨b,1,none⟩ y).cell? ⟨b,1,none⟩=some y :=
 ⟨ZZ (YT c0) (ao (by decide)),YT (ZZ c1 (ao (by decide)))⟩
theorem Ext.set2{a w:World}(h:Ext a w){b:Nat}(hb:a.heap.size<=b)(x y:Value):Ext a ((w.setCell ⟨b,0,none⟩ x).setCell ⟨b,1,none⟩ y) :=
 (h.setCell (p:=⟨b,0,none⟩) hb x).setCell (p:=⟨b,1,none⟩) hb y
theorem Kept.set2{S:Nat->Prop}{w:World}{b:Nat}(h:¬ S b)(x y:Value):Kept S w ((w.setCell ⟨b,0,none⟩ x).setCell ⟨b,1,none⟩ y) :=
 (uH (a:=⟨b,0,none⟩) h x).trans (uH (a:=⟨b,1,none⟩) h y)
abbrev ur:=@Kept.set2
theorem z2m{w:World}{b:Nat}(x y:Value):((w.setCell ⟨b,0,none⟩ x).setCell ⟨b,1,none⟩ y).heap.size=w.heap.size:=by rw[z03,z03]
theorem Ol{S:Nat->Prop}(b:Bool)(v:Value)(zs:List Nat)(w:World)(h:U32s S w v zs)(hS:∀k,S k->k<w.heap.size)(hr:zs.length<=50000000000000) :
  Calls Tryz.prog 64 #[.bool b,v] w λ e w'=>∃v',e=.returned v'/\IntV (New w w') w' v' (Z8 (sg b (val Z9 zs)))/\Ext w w':=by
 have H:=Z_ h;obtain⟨a,c,rfl⟩:=h.form;clear h;have D:=Z_ (uO (uP w) (.cells #[.bool false,.slice none 0 0] 28))
 go_enter Tryz.func64,Tryz.ntmps64
 go_wp2_with fail;refine(XY _ zs _ (H.o.to (uM D.o hS) (λ _ h=>h)) (λ k hk=>zU (hS k hk) D.o.size) hr).mono ?_;rintro e w1 ⟨v',rfl,z,y⟩;generalize hn:val Z9 zs=n at z;have J:=Z_ hn;have Z:=Z_ y;have c0:=y.new_cell (i:=0) rfl;have c1:=y.new_cell (i:=1) rfl;have f0:=y.new_free 0;have f1:=y.new_free 1;have X:=Z_ z;obtain⟨a',U,rfl⟩:=z.form;clear hn z y;have O:=Z_ (zS c0 c1)
 cases b
 all_goals
  go_wp2;have K:=λ x=>YY x (.slice a' (Z4 Z9 n).length U) O.o.1 O.o.2;refine bodyPost_ret (by simp[results,Tryz.results64,go_sem,(K _).1,(K _).2];rfl) rfl ?_;refine⟨_,rfl,⟨_,by rw[zza,J.o];rfl,?_⟩,(D.o.trans Z.o).set2 (zR _) _ _⟩;rw[zza,J.o]
  refine X.o.to (ur (λ h=>?_) _ _) (λ k hk=>⟨?_,?_⟩)
  ·have I:=h.1;rw[z00]at I;omega
  ·have I:=hk.1;rw[z00]at I;omega
  ·rw[z2m];exact hk.2
theorem Vy{S:Nat->Prop}(v:Value)(r:RInt)(w:World)(h:IntV S w v r)(hS:∀k,S k->k<w.heap.size) :
  Calls Tryz.prog 53 #[v] w λ e w'=>e=.returned (.bool (YK r))/\Ext w w':=by
 obtain⟨ng,y⟩:=r;obtain⟨vm,rfl,D⟩:=h;simp only at D⊢;have hl:=D.len_le;have H:=Z_ D;obtain⟨a,c,rfl⟩:=D.form;clear D;have J:=Z_ (uO (uP w) (.cells #[.bool ng,.slice a y.length c] 28))
 by_cases h0:0<y.length
 ·obtain⟨z,K⟩:=ZN (show y.length-1<y.length by omega);obtain⟨b,off,rfl,-,hn,hm,-,hzb,hc⟩:=(H.o.to (uM J.o hS) (λ _ h=>h)).cellAt K
  have O:YK ⟨ng,y⟩=decide (z≠0):=by
   unfold YK;rw[xz,K]
  have I:=Z_ O;clear O K
  go_enter Tryz.func53,Tryz.ntmps53
  go_wp2
  all_goals
   go_ret;refine⟨?_,J.o⟩;rw[I.o];refine congrArg Ending.returned (congrArg Value.bool ?_);rw[Bool.eq_iff_iff];simp
 ·have I:Hd (YK ⟨ng,y⟩ = !ng):=by
   obtain rfl:y=[]:=zO.1 (by omega);exact Z_ rfl
  have hnot:∀(x:Bool) (w:World),(Op.unary .not (.bool x)).run Tryz.prog w=.ok (.bool (!x)) w:=λ _ _=>rfl;have hb:(((y.length:Nat):Int) == 0)=true:=by rw[beq_iff_eq];omega
  go_enter Tryz.func53,Tryz.ntmps53
  go_wp2
  all_goals
   go_ret;refine⟨?_,J.o⟩;rw[I.o];rfl
end
section
open Go.RowKit
theorem U32s.ext{S:Nat->Prop}{w W:World}{v:Value}{zs:List Nat}(h:U32s S w v zs)(hx:Ext w W)(hS:∀k,S k->k<w.heap.size):U32s S W v zs:=h.to (uM hx hS) (λ _ h=>h)
theorem ZM{S:Nat->Prop}{w W:World}(hS:∀k,S k->k<w.heap.size)(hx:Ext w W):∀k,S k->k<W.heap.size:=λ k hk=>zU (hS k hk) hx.size
theorem New.lt{w w':World}:∀k,New w w' k->k<w'.heap.size:=λ _ h=>h.2
abbrev uK:=@New.lt
theorem New.mono{a w w':World}(h:Ext a w):∀k,New w w' k->New a w' k:=λ _ hk=>⟨zT h.size hk.1,hk.2⟩
abbrev uq:=@New.mono
theorem Zf{w W:World}{c1 c2 c3:Array Value}{T1 T2 T3:TypeId}(h:Ext (((w.alloc (.cells c1 T1)).alloc (.cells c2 T2)).alloc (.cells c3 T3)) W) :
  (∀i v,c1[i]? = some v->W.cell? ⟨w.heap.size,i,none⟩=some v)/\(∀i v,c2[i]? = some v->W.cell? ⟨w.heap.size+1,i,none⟩=some v)/\(∀i v,c3[i]? = some v->W.cell? ⟨w.heap.size+1+1,i,none⟩=some v)/\∀i,W.frozen? ⟨w.heap.size+1+1,i,none⟩=false:=by
 have y:Ext ((w.alloc (.cells c1 T1)).alloc (.cells c2 T2)) W:=(uO (uP _) _).trans h;have z:Ext (w.alloc (.cells c1 T1)) W:=(uO (uP _) _).trans y
 refine⟨λ i v hv=>z.new_cell hv,λ i v hv=>?_,λ i v hv=>?_,λ i=>?_⟩
 ·have:=y.new_cell hv
  rwa [z00]at this
 ·have:=h.new_cell hv
  rwa [z00,z00]at this
 ·have:=h.new_free i
  rwa [z00,z00]at this
theorem Ext.drew{a w:World}(h:Ext a w):Ext a w.drew:=⟨h.os,h.tape,h.output,h.size,h.block⟩
abbrev uI:=@Ext.drew
theorem T_{W:World}{a b c:Addr}{x y z:Value}(h1:W.cell? a=some x)(h2:W.cell? b=some y)(h3:W.cell? c=some z):W.drew.cell? a=some x/\W.drew.cell? b=some y/\W.drew.cell? c=some z :=
 ⟨by simpa using h1,by simpa using h2,by simpa using h3⟩
theorem Xi{w0 w1 w2:World}{b:Nat}{v:Value}{r:RInt}{vm:Value}(hv:v=.agg #[.bool r.neg,vm])(hu:U32s (New w1 w2) w2 vm r.mag)(h01:Ext w0 w1)(h12:Ext w1 w2)(hb0:w0.heap.size<=b)(hb1:b<w1.heap.size)(x y:Value) :
  IntV (New w0 ((w2.setCell ⟨b,0,none⟩ x).setCell ⟨b,1,none⟩ y)) ((w2.setCell ⟨b,0,none⟩ x).setCell ⟨b,1,none⟩ y) v r/\Ext w0 ((w2.setCell ⟨b,0,none⟩ x).setCell ⟨b,1,none⟩ y):=by
 refine⟨⟨vm,hv,hu.to (ur (λ h=>?_) _ _) (λ k hk=>⟨zT h01.size hk.1,?_⟩)⟩,(h01.trans h12).set2 hb0 _ _⟩
 ·have:=h.1;omega
 ·rw[z2m];exact hk.2
theorem VW{S:Nat->Prop}(b:Bool)(v:Value)(n:Nat)(w:World)(h:U32s S w v (Z4 Z9 n))(hS:∀k,S k->k<w.heap.size)(hr:(Z4 Z9 n).length<=50000000000000) :
  Calls Tryz.prog 64 #[.bool b,v] w λ e w'=>∃v',e=.returned v'/\IntV (New w w') w' v' (Z8 (sg b n))/\Ext w w':=by
 have h1:=Ol b v (Z4 Z9 n) w h hS hr
 rwa [ZB ZU]at h1
theorem QL{a b k:Nat}(ha:(Z4 Z9 a).length<=k)(hb:(Z4 Z9 b).length<=k):(Z4 Z9 (a+b)).length<=k+1:=by
 refine YZ ZU _ _ ?_;have h1:=Xq ZU a;have h2:=Xq ZU b;have h3:Z9^(Z4 Z9 a).length<=Z9^k:=zA (by decide) ha;have h4:Z9^(Z4 Z9 b).length<=Z9^k:=zA (by decide) hb;rw[yY];generalize Z9^k=P at *;have:P*2<=P*Z9:=yV _ (by decide);omega
theorem Yp{a b:Nat}(h:a<=b):(Z4 Z9 a).length<=(Z4 Z9 b).length:=YZ ZU _ _ (zh h (Xq ZU b))
theorem XL{zs:List Nat}(h:∀z∈zs,z<Z9):(Z4 Z9 (val Z9 zs)).length<=zs.length:=YZ ZU _ _ (Y4 zs h)
theorem TI{S:Nat->Prop}(vx vy:Value)(x y:RInt)(w:World)(hx:IntV S w vx x)(hy:IntV S w vy y)(hS:∀k,S k->k<w.heap.size)(hr:x.mag.length<=40000000000000)(hr2:y.mag.length<=40000000000000) :
  Calls Tryz.prog 61 #[vx,vy] w λ e w'=>∃v',e=.returned v'/\IntV (New w w') w' v' (Z8 (Z6 x+Z6 y))/\Ext w w':=by
 obtain⟨J,xs⟩:=x;obtain⟨Z,ys⟩:=y;obtain⟨vxm,rfl,ae⟩:=hx;obtain⟨vym,rfl,ah⟩:=hy;simp only at ae ah hr hr2⊢;have HX:=Z_ ae;have HY:=Z_ ah;obtain⟨ax,cx,rfl⟩:=ae.form;obtain⟨ay,cy,rfl⟩:=ah.form;clear ae ah;have HK:=Z_ (uO (uO (uO (uP w) (.cells #[.bool J,.slice ax xs.length cx] 28)) (.cells #[.bool Z,.slice ay ys.length cy] 28)) (.cells #[.bool false,.slice none 0 0] 28));have ap:=Z_ (HX.o.ext HK.o hS);have ar:=Z_ (HY.o.ext HK.o hS);have al:=Z_ (ZM hS HK.o);have aj:w.heap.size+1+1<(((w.alloc (.cells #[.bool J,.slice ax xs.length cx] 28)).alloc (.cells #[.bool Z,.slice ay ys.length cy] 28)).alloc (.cells #[.bool false,.slice none 0 0] 28)).heap.size:=by simp
 have ai:=Z_ aj;clear aj
 by_cases O:J=Z
 ·have hb:(J == Z)=true:=by rw[beq_iff_eq];exact O
  have HQ:Hd (Z6 ⟨J,xs⟩ + Z6 ⟨Z,ys⟩=sg J (val Z9 xs+val Z9 ys)):=Z_ (by
   subst O;unfold Z6 sg
   cases J<;>(simp;try omega))
  subst O;obtain⟨b1,b2,b3,b4⟩:=Zf (uP (((w.alloc (.cells #[.bool J,.slice ax xs.length cx] 28)).alloc (.cells #[.bool J,.slice ay ys.length cy] 28)).alloc (.cells #[.bool false,.slice none 0 0] 28)));have c1:=b1 0 _ rfl;have c2:=b1 1 _ rfl;have c3:=b2 1 _ rfl;clear b1 b2 b3 b4;have S0:=T_ c1 c2 c3;clear c1 c2 c3;have av:=Z_ S0;clear S0
  go_enter Tryz.func61,Tryz.ntmps61
  go_wp2;have S0:=av.o;have HL:Hd ((Z4 Z9 (val Z9 xs+val Z9 ys)).length<=50000000000000):=Z_ (zT (QL (k:=40000000000000) (zT (XL HX.o.lt) hr) (zT (XL HY.o.lt) hr2)) (by decide))
  go_region_held3 (λ W=>W.cell? ⟨w.heap.size,0,none⟩=some (.bool J)/\W.cell? ⟨w.heap.size,1,none⟩=some (.slice ax xs.length cx)/\W.cell? ⟨w.heap.size+1,1,none⟩=some (.slice ay ys.length cy)) (first|exact S0|exact S1|exact S2|exact⟨ZZ (ZZ S2.1 (ab (by omega))) (ab (by omega)),ZZ (ZZ S2.2.1 (ab (by omega))) (ab (by omega)),ZZ (ZZ S2.2.2 (ab (by omega))) (ab (by omega))⟩)
   (first
    |(go_at_call 98;(with_reducible refine(Q_ _ _ xs ys _ (HX.o.ext (HK.o.drew) hS) (HY.o.ext (HK.o.drew) hS) (ZM hS (HK.o.drew)) (by omega) (by omega)).mono ?_);rintro e w1 ⟨v1,rfl,I,z⟩;have S1:=zS (z.cell S0.1) (zS (z.cell S0.2.1) (z.cell S0.2.2));have U:=Z_ z;have aa:=Z_ I;obtain⟨a1,n1,rfl⟩:=I.form;clear z I)
    |(go_at_call 64;(with_reducible refine(VW J _ _ _ aa.o uK HL.o).mono ?_);rintro e w2 ⟨v2,rfl,⟨aq,rfl,K⟩,D⟩;have S2:=zS (D.cell S1.1) (zS (D.cell S1.2.1) (D.cell S1.2.2));have ad:=Z_ D;have ac:=Z_ K;obtain⟨a2,n2,rfl⟩:=K.form;obtain⟨-,-,d3,d4⟩:=Zf ((uI (uP _)).trans (U.o.trans D));have e0:=d3 0 _ rfl;have e1:=d3 1 _ rfl;have HE:=Z_ (zS e0 e1);have f0:=d4 0;have f1:=d4 1;clear d3 d4 D K))
  go_wp2;have hd:=λ x y=>YY x y HE.o.1 HE.o.2;refine bodyPost_ret (by simp[results,Tryz.results61,go_sem,(hd _ _).1,(hd _ _).2];rfl) rfl ?_;have hg:=Xi (w0:=w) (b:=w.heap.size+1+1) rfl ac.o (HK.o.drew.trans U.o) ad.o (by omega) (zU ai.o U.o.size) (.bool (Z8 (sg J (val Z9 xs+val Z9 ys))).neg) (.slice a2 (Z8 (sg J (val Z9 xs+val Z9 ys))).mag.length n2);rw[HQ.o];exact⟨_,rfl,hg.1,hg.2⟩
 ·have hb:(J == Z)=false:=by rw[beq_eq_false_iff_ne];exact O
  obtain⟨b1,b2,b3,b4⟩:=Zf (uP (((w.alloc (.cells #[.bool J,.slice ax xs.length cx] 28)).alloc (.cells #[.bool Z,.slice ay ys.length cy] 28)).alloc (.cells #[.bool false,.slice none 0 0] 28)));have c1:=b1 0 _ rfl;have c2:=b1 1 _ rfl;have c3:=b2 1 _ rfl;have c4:=b2 0 _ rfl;clear b1 b2 b3 b4
  by_cases af:val Z9 ys<=val Z9 xs
  ·have HQ:Hd (Z6 ⟨J,xs⟩ + Z6 ⟨Z,ys⟩=sg J (val Z9 xs-val Z9 ys)):=Z_ (by
    unfold Z6 sg
    cases J<;>cases Z<;>first|(exact absurd rfl O)|(simp;omega))
   have ag:=Z_ af;have au:=Z_ O;clear af O
   go_enter Tryz.func61,Tryz.ntmps61
   go_wp2_with fail;refine(Sw _ _ xs ys _ ap.o ar.o al.o (by omega) ag.o).mono ?_;rintro e w1 ⟨v1,rfl,I,z⟩;obtain⟨g1,g2,-,-⟩:=Zf z;have k1:=g1 0 _ rfl;clear g1 g2;have X:=Z_ z;have aa:=Z_ I;obtain⟨a1,n1,rfl⟩:=I.form;have HL:Hd ((Z4 Z9 (val Z9 xs-val Z9 ys)).length<=50000000000000):=Z_ (zT (zT (Yp (uR _ _)) (XL HX.o.lt)) (by omega));clear z I;go_wp2_with fail;refine(VW J _ _ _ aa.o uK HL.o).mono ?_;rintro e w2 ⟨v2,rfl,⟨aq,rfl,K⟩,D⟩;have ad:=Z_ D;have ac:=Z_ K;obtain⟨a2,n2,rfl⟩:=K.form;obtain⟨-,-,d3,d4⟩:=Zf (X.o.trans D);have e0:=d3 0 _ rfl;have e1:=d3 1 _ rfl;have HE:=Z_ (zS e0 e1);have f0:=d4 0;have f1:=d4 1;clear d3 d4 D K;go_wp2;have hd:=λ x y=>YY x y HE.o.1 HE.o.2;refine bodyPost_ret (by simp[results,Tryz.results61,go_sem,(hd _ _).1,(hd _ _).2];rfl) rfl ?_;have hg:=Xi (w0:=w) (b:=w.heap.size+1+1) rfl ac.o (HK.o.trans X.o) ad.o (by omega) (zU ai.o X.o.size) (.bool (Z8 (sg J (val Z9 xs-val Z9 ys))).neg) (.slice a2 (Z8 (sg J (val Z9 xs-val Z9 ys))).mag.length n2);rw[HQ.o];exact⟨_,rfl,hg.1,hg.2⟩
  ·have HQ:Hd (Z6 ⟨J,xs⟩ + Z6 ⟨Z,ys⟩=sg Z (val Z9 ys-val Z9 xs)):=Z_ (by
    unfold Z6 sg
    cases J<;>cases Z<;>first|(exact absurd rfl O)|(simp;omega))
   have ag:=Z_ af;have au:=Z_ O;clear af O
   go_enter Tryz.func61,Tryz.ntmps61
   go_wp2_with fail;refine(AR _ _ xs ys _ ap.o ar.o al.o (by have:=ag.o;omega)).mono ?_;rintro e w1 ⟨rfl,z⟩;obtain⟨g1,g2,-,-⟩:=Zf z;have k1:=g1 1 _ rfl;have k2:=g2 1 _ rfl;have k3:=g2 0 _ rfl;clear g1 g2;have U:=Z_ z;clear z;go_wp2_with fail;refine(Sw _ _ ys xs _ (HY.o.ext (HK.o.trans U.o) hS) (HX.o.ext (HK.o.trans U.o) hS) (ZM hS (HK.o.trans U.o)) (by omega) (by have:=ag.o;omega)).mono ?_;rintro e w1' ⟨v1,rfl,I,z⟩;obtain⟨g1,g2,-,-⟩:=Zf (U.o.trans z);have k4:=g2 0 _ rfl;clear g1 g2;have X:=Z_ (U.o.trans z);have aa:=Z_ I;obtain⟨a1,n1,rfl⟩:=I.form;have HL:Hd ((Z4 Z9 (val Z9 ys-val Z9 xs)).length<=50000000000000):=Z_ (zT (zT (Yp (uR _ _)) (XL HY.o.lt)) (by omega));clear z I;go_wp2_with fail;refine(VW Z _ _ _ aa.o uK HL.o).mono ?_;rintro e w2 ⟨v2,rfl,⟨aq,rfl,K⟩,D⟩;have ad:=Z_ D;have ac:=Z_ K;obtain⟨a2,n2,rfl⟩:=K.form;obtain⟨-,-,d3,d4⟩:=Zf (X.o.trans D);have e0:=d3 0 _ rfl;have e1:=d3 1 _ rfl;have HE:=Z_ (zS e0 e1);have f0:=d4 0;have f1:=d4 1;clear d3 d4 D K;go_wp2;have hd:=λ x y=>YY x y HE.o.1 HE.o.2;refine bodyPost_ret (by simp[results,Tryz.results61,go_sem,(hd _ _).1,(hd _ _).2];rfl) rfl ?_;have hg:=Xi (w0:=w) (b:=w.heap.size+1+1) rfl ac.o (HK.o.trans X.o) ad.o (by omega) (zU ai.o X.o.size) (.bool (Z8 (sg Z (val Z9 ys-val Z9 xs))).neg) (.slice a2 (Z8 (sg Z (val Z9 ys-val Z9 xs))).mag.length n2);rw[HQ.o];exact⟨_,rfl,hg.1,hg.2⟩
end
section
open Go.RowKit
theorem zav(n k:Nat):dg (List.replicate n 0) k=0:=by
 unfold dg;rw[wF]
 split<;>rfl
theorem zm0{l:List Nat}{k j z:Nat}:dg (l.set k z) j=if k=j/\k<l.length then z else dg l j:=by
 unfold dg;rw[xV]
 by_cases h:k=j
 ·subst h
  by_cases h2:k<l.length
  ·simp[h2]
  ·simp[h2]
 ·simp[h]
theorem Mo{l:List Nat}(h:∀z∈l,z<Z9)(k z:Nat)(hz:z<Z9):∀y∈l.set k z,y<Z9:=λ y hy=>by
 rcases yq hy with h1|h1
 ·exact h y h1
 ·rw[h1];exact hz
theorem Ht{o:List Nat}{i k c x y V0 Y:Nat}(hk:i+k<o.length)(h:val Z9 o+Z9^(i+k)*c=V0+Z9^i*(x*Y)) :
  val Z9 (o.set (i+k) ((c+(x*y+dg o (i+k))) % Z9))+Z9^(i+(k+1))*((c+(x*y+dg o (i+k))) / Z9)=V0+Z9^i*(x*(Y+Z9^k*y)):=by
 have h1:=Qs (B:=Z9) o (i+k) ((c+(x*y+dg o (i+k))) % Z9) hk;generalize hs:c+(x*y+dg o (i+k))=s at *;have I:s % Z9+Z9*(s / Z9)=s:=wL _ _
 have D:Z9^(i+(k+1))*(s / Z9)=Z9^(i+k)*(Z9*(s / Z9)):=by
  rw[<-xh,yY,zu]
 have z:Z9^i*(x*(Y+Z9^k*y))=Z9^i*(x*Y)+Z9^(i+k)*(x*y):=by
  rw[zy,zy,yH]
  congr 1
  rw[zu,xK x]
 have e3:Z9^(i+k)*s=Z9^(i+k)*(s % Z9)+Z9^(i+k)*(Z9*(s / Z9)):=by
  rw[<-zy,I]
 have e4:Z9^(i+k)*s=Z9^(i+k)*c+(Z9^(i+k)*(x*y)+Z9^(i+k)*dg o (i+k)):=by
  rw[<-hs,zy,zy]
 rw[D,z];omega
theorem JT{o:List Nat}{i c x V0:Nat}{xs ys:List Nat}(hx:xs[i]? = some x)(hi:i+ys.length<o.length)(h0:dg o (i+ys.length)=0)(hV:V0=val Z9 (xs.take i)*val Z9 ys)(h:val Z9 o+Z9^(i+ys.length)*c=V0+Z9^i*(x*val Z9 ys)) :
  val Z9 (o.set (i+ys.length) c)=val Z9 (xs.take (i+1))*val Z9 ys:=by
 have h1:=Qs (B:=Z9) o (i+ys.length) c hi;rw[h0]at h1;have h2:=TR (B:=Z9) hx;rw[h2,y8,<-hV,zu];omega
theorem J3{x y d c:Nat}(hx:x<4294967296)(hy:y<4294967296)(hd:d<4294967296)(hc:c<4294967296):x*y<=18446744065119617025/\c+(x*y+d)<=18446744073709551615:=by
 have h1:x*y<=4294967295*4294967295:=yR (by omega) (by omega);omega
theorem Jd{S:Nat->Prop}(va vb:Value)(xs ys:List Nat)(w:World)(ha:U32s S w va xs)(hb:U32s S w vb ys)(hS:∀k,S k->k<w.heap.size)(hr:xs.length+ys.length<=1000000000000) :
  Calls Tryz.prog 152 #[va,vb] w λ e w'=>∃v',e=.returned v'/\U32s (New w w') w' v' (Z4 Z9 (val Z9 xs*val Z9 ys))/\Ext w w':=by
 have HA:=Z_ ha;have HB:=Z_ hb;have a0:=ha.len_le;have a8:=hb.len_le;obtain⟨aa,ca,rfl⟩:=ha.form;obtain⟨ab,cb,rfl⟩:=hb.form;obtain⟨n,hn⟩:∃n,n=xs.length:=⟨_,rfl⟩
 obtain⟨m,hm⟩:∃n,n=ys.length:=⟨_,rfl⟩
 rw[<-hn,<-hm]at hr;rw[<-hn]at HA a0⊢;rw[<-hm]at HB a8⊢;have aB:=Z_ hn;have O:=Z_ hm;clear ha hb hn hm;have a2:=run_make_row' (P:=Tryz.prog) 26 75 (.int .u32 0) 4 Tryz.underlying26 uC rfl .i64 .i64 (n+m) (by omega) (by omega) w;rw[show((n+m:Nat):Int)=(n:Int)+(m:Int) by omega]at a2;have HR:=Z_ (Tc w (n+m) 75);have HE:=Z_ (uO (uP w) (.cells (madeCells #[.int .u32 0] (n+m)) 75))
 go_enter Tryz.func152,Tryz.ntmps152
 go_wp2
 go_loopw [19] (λ i wr=>∃(k:Nat) (o:List Nat),k<=n/\i=.int .i64 k/\Hd (o.length=n+m)/\Hd (∀z∈o,z<Z9)/\wr.rowIs w.heap.size 75 (n+m) (rowU o)/\Ext w wr/\Hd (w.heap.size<wr.heap.size) /\
  Hd (val Z9 o=val Z9 (xs.take k)*val Z9 ys)/\Hd (∀j,k+m<=j->dg o j=0)) (λ i _=>n-(intOf i).toNat)
 case atStart=>exact⟨0,List.replicate (n+m) 0,zL _,rfl,Z_ (by simp),Z_ (λ z hz=>by rw[(wZ.1 hz).2];decide),HR.o,HE.o,Z_ (by simp),Z_ (by rw[z6q];simp[val]),Z_ (λ j _=>zav _ _)⟩
 case round=>
  obtain⟨k,o,hk,rfl,af,HO,ah,hx,aF,HV,HZ⟩:=hrel;have HX:=Z_ hx;have ag:=Z_ ah;clear ah
  by_cases a5:k<n
  ·obtain⟨x,ar⟩:=ZN (l:=xs) (j:=k) (by rw[<-aB.o];exact a5);obtain⟨b1,o1,rfl,-,hn1,hm1,-,ax,hc1⟩:=(HA.o.to (uM hx hS) (λ _ h=>h)).cellAt ar;have aN:=Z_ ar;have HXB:=Z_ ax;clear hx ar;go_wp2;obtain⟨wo,rfl⟩:∃wo:World,wo=wr:=⟨_,rfl⟩
   go_loopw [8,26] (λ c i wr=>∃(j Z:Nat) (X:List Nat),j<=m/\i=.int .i64 j/\c=.int .u64 Z/\Z<4294967296/\Hd (X.length=n+m)/\Hd (∀z∈X,z<Z9)/\wr.rowIs w.heap.size 75 (n+m) (rowU X)/\Ext w wr/\Hd (w.heap.size<wr.heap.size) /\
    Hd (val Z9 X+Z9^(k+j)*Z=val Z9 o+Z9^k*(x*val Z9 (ys.take j)))/\Hd (∀i,k+m<=i->dg X i=0)) (λ _ i _=>m-(intOf i).toNat)
   case atStart=>exact⟨0,0,o,zL _,rfl,rfl,by omega,af,HO,ag.o,HX.o,aF,Z_ (by simp[val]),HZ⟩
   case round=>
    obtain⟨j,Z,X,hj,rfl,rfl,az,I,al,D,J,ai,aA,aq⟩:=hrel;have ae:=Z_ J;have ac:=Z_ D
    by_cases av:j<m
    ·obtain⟨y,ap⟩:=ZN (l:=ys) (j:=j) (by rw[<-O.o];exact av);obtain⟨b2,o3,rfl,-,hn2,hm2,-,aP,hc2⟩:=(HB.o.to (uM J hS) (λ _ h=>h)).cellAt ap;have aG:=Z_ ap;obtain⟨t,ht⟩:∃t,t=k+j:=⟨_,rfl⟩
     have aR:(k:Int)+(j:Int)=(t:Int):=by omega
     have K:t<n+m:=by omega
     have aj:=D.cell (i:=t) K;have a3:=D.frozen t;have au:dg X t<4294967296:=TX (by decide) al.o t;unfold rowU at aj;obtain⟨d,hd⟩:∃d,d=dg X t:=⟨_,rfl⟩
     rw[<-hd]at aj au;have HD:=Z_ hd;have HT:=Z_ ht;obtain⟨aS,ad⟩:=J3 ax aP au az;obtain⟨p,hp⟩:∃p,p=x*y:=⟨_,rfl⟩
     have hpi:(x:Int)*(y:Int)=(p:Int):=by rw[hp,yz]
     rw[<-hp]at aS ad;have HP:=Z_ hp;clear ap D J hd ht hp;go_wp2
     go_roundw
     case rel=>
      have aC:(Z+(p+d)) % 4294967296<Z9:=yS _ (by decide)
      refine⟨j+1,(Z+(p+d)) / 4294967296,X.set t ((Z+(p+d)) % 4294967296),by omega,by go_num,congrArg (Value.int .u64) (by omega),by omega,Z_ (by rw[yy];exact I.o),Z_ (Mo al.o t _ aC),?_,ae.o.setCell (p:=⟨w.heap.size,t,none⟩) (zR _) _,Z_ (by rw[z03];exact ai.o),?_,?_⟩
      ·have U:=Vq ac.o t ((Z+(p+d)) % 4294967296) (by rw[I.o];exact K);refine cast (congrArg (λ e=>World.rowIs (World.setCell wr ⟨w.heap.size,t,none⟩ (Value.int .u32 e)) _ _ _ _) ?_) U;omega
      ·have U:=Ht (o:=X) (i:=k) (k:=j) (c:=Z) (x:=x) (y:=y) (V0:=val Z9 o) (Y:=val Z9 (ys.take j)) (by rw[I.o,<-HT.o];exact K) aA.o;rw[<-TR aG.o,<-HP.o,<-HT.o,<-HD.o]at U;exact U
      ·refine Z_ (λ i hi=>?_);rw[zm0,if_neg (by have:=HT.o;omega)];exact aq.o i hi
     case measure=>simp only[intOf];omega
    ·obtain rfl:m=j:=by omega
     obtain⟨t,ht⟩:∃t,t=k+m:=⟨_,rfl⟩
     have aR:(k:Int)+(m:Int)=(t:Int):=by omega
     have K:t<n+m:=by omega
     have aj:=D.cell (i:=t) K;have a3:=D.frozen t
     have ay:val Z9 (X.set t Z)=val Z9 (xs.take (k+1))*val Z9 ys:=by
      have U:=aA.o;rw[show ys.take m=ys by rw[O.o];exact yW]at U;have h2:=JT (o:=X) (i:=k) (c:=Z) (xs:=xs) (ys:=ys) aN.o (by rw[I.o,<-O.o,<-ht];exact K) (by rw[<-O.o];exact aq.o _ (zR _)) HV.o (by rw[<-O.o];exact U);rw[<-O.o,<-ht]at h2;exact h2
     have a7:=Z_ ay;have HT:=Z_ ht;have a6:=Z_ az;clear D J ay ht;go_wp2
     go_roundw
     case rel=>
      refine⟨k+1,X.set t Z,by omega,by go_num,Z_ (by rw[yy];exact I.o),Z_ (Mo al.o t _ a6.o),?_,ae.o.setCell (p:=⟨w.heap.size,t,none⟩) (zR _) _,Z_ (by rw[z03];exact ai.o),a7,Z_ (λ i hi=>?_)⟩
      ·have U:=Vq ac.o t Z (by rw[I.o];exact K);refine cast (congrArg (λ e=>World.rowIs (World.setCell wr ⟨w.heap.size,t,none⟩ (Value.int .u32 e)) _ _ _ _) ?_) U;omega
      ·rw[zm0,if_neg (by have:=HT.o;omega)];exact aq.o i (by omega)
     case measure=>simp only[intOf];omega
  ·obtain rfl:n=k:=by omega
   have hv:val Z9 o=val Z9 xs*val Z9 ys:=by
    have U:=HV.o
    rwa [show xs.take n=xs by rw[aB.o];exact yW]at U
   have a4:=Z_ hv
   have hu:U32s (λ k=>k=w.heap.size) wr (.slice (some ⟨w.heap.size,0,none⟩) (n+m) (n+m)) o:=by
    have U:=uA ag.o (by have:=af.o;omega) HO.o (by omega)
    rwa [af.o]at U
   have hz:w.heap.size<wr.heap.size:=aF.o;have HC:=Z_ (XY (S:=λ k=>k=w.heap.size) _ o wr hu (λ k hk=>by rw[hk];exact hz) (by rw[af.o];omega));clear hx hv hu hz;go_wp2_with fail;with_reducible refine HC.o.mono ?_;rintro e w2 ⟨v2,rfl,ad,J⟩;rw[a4.o]at ad;have aH:=Z_ (ad.to (S':=New w w2) (uN _ _) (λ k h=>⟨zT HX.o.size h.1,h.2⟩));have ae:=Z_ (HX.o.trans J);clear ad J;go_wp2
   all_goals
    go_ret;exact⟨_,rfl,aH.o,ae.o⟩
end
section
open Go.RowKit
theorem OR(s:Nat)(hs:s<32)(w:World):Calls Tryz.prog 156 #[.int .i64 (s:Nat)] w λ e w'=>e=.returned (.bool true)/\w=w':=by
 have h1:(0:Int)<=(s:Int):=by omega
 have h2:(s:Int)<=31:=by omega
 go_enter Tryz.func156,Tryz.ntmps156
 go_wp2
 all_goals
  go_ret;exact⟨congrArg (λ b=>Ending.returned (Value.bool b)) (decide_eq_true (by omega)),rfl⟩
theorem K6{s:Nat}(hs:s<32):2^(32-s)*2^s=Z9:=by
 rw[<-yH,show 32-s+s=32 by omega]
theorem Ka{x s c:Nat}(hx:x<Z9)(hs:s<32)(hc:c<2^s):c+x*2^s % Z9<Z9/\x*2^s / Z9<2^s/\x*2^s % Z9 % 2^s=0:=by
 have y:=K6 hs;have z:0<2^s:=yK (by decide);rw[<-y,Nat.mul_mod_mul_right,Nat.mul_div_mul_right _ _ z];have D:x % 2^(32-s)<2^(32-s):=yS _ (yK (by decide))
 refine⟨?_,?_,Nat.mul_mod_left _ _⟩
 ·have I:(x % 2^(32-s)+1)*2^s<=2^(32-s)*2^s:=zF _ D;rw[y8,yM]at I;omega
 ·refine xu ?_;rw[y];exact hx
theorem GH(s c m:Nat)(hs:s<32)(hc:c<2^s)(hm:m<Z9)(hd:m % 2^s=0):bits .or .u32 (c:Int) (m:Int)=((c+m:Nat):Int):=by
 have D:∀n:Int,0<=n->n<2^32->IntKind.u32.wrap n=n:=λ n h0 h1=>by rw[IntKind.wrap_u32];omega
 have y:c<2^32:=zU hc (zA (by decide) (by omega));have z:m<2^32:=hm;rw[(bits_nat .u32 32 (by decide) D c m y z).2,Nat.or_comm];have h:=bits_join .u32 32 (by decide) D s (m:Int) (c:Int) (by omega) (by exact_mod_cast hd) (by exact_mod_cast z) (by omega) (by exact_mod_cast hc) (by exact_mod_cast y);rw[(bits_nat .u32 32 (by decide) D m c z y).2]at h;rw[h];omega
theorem RL{o o':List Nat}(h:∀j,dg o j=dg o' j):rowU o=rowU o':=funext λ j=>by unfold rowU;rw[h]
theorem zkh(o:List Nat)(z j:Nat):dg (o ++ [z]) j=if j<o.length then dg o j else if j=o.length then z else 0:=by
 unfold dg;rw[List.getElem?_append]
 split
 ·rfl
 ·rename_i h
  split
  ·rename_i h2
   rw[h2,xZ];rfl
  ·rename_i h2
   rw[xE (by simp;omega)];rfl
theorem QC{B:Nat}(hB:0<B)(l:List Nat)(hl:∀d∈l,d<B)(j:Nat):dg l j=val B l / B^j % B:=by
 induction l generalizing j with
 |nil=>simp[dg,val]
 |cons d l ih=>
  have y:=hl d (zz ..)
  cases j with
  |zero=>
   show d=(d+B*val B l) / B^0 % B;rw[uZ,Nat.div_one,xx,yB y]
  |succ j=>
   show dg l j=(d+B*val B l) / B^(j+1) % B;rw[ih (λ z hz=>hl z (yX _ hz)) j,yY,zq (B^j) B,<-wu,wT _ _ hB,yb y,zr]
theorem Lo{o:List Nat}(ho:∀z∈o,z<Z9)(n:Nat)(hn:val Z9 o=n)(j:Nat):dg o j=dg (Z4 Z9 n) j:=by
 rw[QC (by decide) _ ho,QC (by decide) _ (XX ZU n),ZB ZU,hn]
theorem MY(zs:List Nat)(hl:∀z∈zs,z<Z9){k:Nat}(ht:z32 zs k=z32 zs zs.length):z32 zs k=(Z4 Z9 (val Z9 zs)).length:=by
 rw[<-Uw ZU zs hl,<-yW (l:=zs),<-SZ zs _ (zR _),yW,zD,ht];have:=Fe zs zs.length;omega
theorem ES{S:Nat->Prop}(a:Option Addr)(cap:Nat)(zs:List Nat)(w:World)(h:U32s S w (.slice a zs.length cap) zs) :
  Calls Tryz.prog 100 #[.slice a zs.length cap] w λ e w'=>e=.returned (.slice a (Z4 Z9 (val Z9 zs)).length cap)/\w=w':=by
 have hl:=h.len_le;have H:=Z_ h;clear h
 go_enter Tryz.func100,Tryz.ntmps100
 go_wp2
 go_loop [0] (λ x=>∃k:Nat,k<=zs.length/\x=.slice a k cap/\z32 zs k=z32 zs zs.length) (λ x=>Yr x)
 case atStart=>exact⟨zs.length,zR _,rfl,rfl⟩
 case round=>
  obtain⟨k,hk,rfl,I⟩:=hrel
  cases k with
  |zero=>
   have J:=Z_ I;clear I;go_wp2
   all_goals
    go_ret;refine⟨?_,rfl⟩;rw[<-MY zs H.o.lt J.o];rfl
  |succ k=>
   obtain⟨z,O⟩:=ZN (show k<zs.length by omega);obtain⟨b,off,D,X,hcap,hmax,hzb,hcell⟩:=H.o.at O;obtain⟨rfl,-,rfl⟩:a=some ⟨b,off,none⟩/\True/\cap=D:=by simpa using X
   have J:=Z_ I;have U:=Z_ O;clear I O X
   by_cases y:z=0
   ·have hb:((z:Int) == 0)=true:=by simpa using y
    have K:=Z_ y;clear y;go_wp2
    go_round
    case rel=>exact⟨k,by omega,rfl,by rw[<-J.o,z32,U.o,K.o,if_pos rfl]⟩
    case measure=>simp only[Yr];omega
   ·have hb:((z:Int) == 0)=false:=by simpa using y
    have K:=Z_ y;clear y;go_wp2
    all_goals
     go_ret;refine⟨?_,rfl⟩;have Z:z32 zs (k+1)=k+1:=by rw[z32,U.o,if_neg (by simpa using K.o)]
     rw[<-MY zs H.o.lt J.o,Z];rfl
theorem Lj{S:Nat->Prop}(v:Value)(zs:List Nat)(s:Nat)(w:World)(h:U32s S w v zs)(hS:∀k,S k->k<w.heap.size)(hr:zs.length<=1000000000000)(hs:s<32) :
  Calls Tryz.prog 135 #[v,.int .i64 (s:Nat)] w λ e w'=>∃g,e=.returned (.tuple #[.slice (some ⟨g,0,none⟩) (Z4 Z9 (val Z9 zs*2^s)).length ((Z4 Z9 (val Z9 zs)).length+1),.int .i64 0])/\w.heap.size<=g/\g<w'.heap.size /\
   w'.rowIs g 75 ((Z4 Z9 (val Z9 zs)).length+1) (rowU (Z4 Z9 (val Z9 zs*2^s)))/\Ext w w':=by
 have af:(Z4 Z9 (val Z9 zs)).length<=zs.length:=YZ ZU _ _ (Y4 zs h.lt);have H:=Z_ h;obtain⟨a,cap,rfl⟩:=h.form;clear h;have CM:=Z_ (OR s hs w)
 go_enter Tryz.func135,Tryz.ntmps135
 go_wp2_with fail;refine CM.o.mono ?_;rintro e w1 ⟨rfl,rfl⟩;go_wp2_with fail;refine(Xo _ zs _ H.o).mono ?_;rintro e w' ⟨v',rfl,hu,rfl⟩;have Z:((s:Int)).tdiv 32=0:=by rw[wU (by omega)];omega
 have hx2:((s:Int)).tmod 32=(s:Int):=by rw[vQ (by omega)];omega
 obtain⟨L,hL⟩:∃L,L=(Z4 Z9 (val Z9 zs)).length:=⟨_,rfl⟩
 have HU:=Z_ hu;obtain⟨a',c',rfl⟩:=hu.form;rw[<-hL]at HU af⊢;have aj:=run_make_row' (P:=Tryz.prog) 26 75 (.int .u32 0) 4 Tryz.underlying26 uC rfl .i64 .i64 (L+1) (by omega) (by omega) w;rw[show((L+1:Nat):Int)=(L:Int)+1 by omega]at aj;obtain⟨V,hV⟩:∃V,V=val Z9 zs:=⟨_,rfl⟩
 rw[<-hV]at HU hL;have HL:=Z_ hL;have HLE:=Z_ af;have HV:=Z_ hV;have ah:=Z_ (Tc w (L+1) 75);have ai:=Z_ (uO (uP w) (.cells (madeCells #[.int .u32 0] (L+1)) 75));clear hu hL hV;go_wp2
 go_loopw [24] (λ s24 wr=>∃(i c:Nat) (o:List Nat),s24=.int .i64 (i:Nat)/\i<=L/\Hd (c<2^s/\o.length=i/\(∀z∈o,z<Z9)/\val Z9 o+Z9^i*c=val Z9 ((Z4 Z9 V).take i)*2^s) /\
  wr.rowIs w.heap.size 75 (L+1) (rowU (o ++ [c]))/\Ext w wr) (λ s24 _=>L-(intOf s24).toNat)
 case atStart=>
  refine⟨0,0,[],rfl,zL _,Z_ ⟨yK (by decide),rfl,by simp,by simp[val]⟩,?_,ai.o⟩;have e:rowU ([] ++ [0])=rowU (List.replicate (L+1) 0):=RL λ j=>by rw[zav,zkh];simp
  rw[e];exact ah.o
 case round=>
  obtain⟨i,c,o,rfl,hi,HI,y,hx⟩:=hrel;have HR:=Z_ y;have HX:=Z_ hx
  by_cases al:i<L
  ·obtain⟨x,Z⟩:=ZN (l:=Z4 Z9 V) (j:=i) (by rw[<-HL.o];exact al);obtain⟨b1,o1,rfl,-,hn1,hm1,-,J,hc1⟩:=(HU.o.to (uM hx hS) (λ _ h=>h)).cellAt Z
   have hc2:wr.cell? ⟨w.heap.size,i,none⟩=some (.int .u32 (c:Nat)):=by
    have I:=y.cell (i:=i) (by omega);rw[I];show some (Value.int .u32 (dg (o ++ [c]) i:Nat))=_;rw[zkh,if_neg (by have:=HI.o.2.1;omega),if_pos HI.o.2.1.symm]
   have hf2:=y.frozen i
   have hc3:wr.cell? ⟨w.heap.size,i+1,none⟩=some (.int .u32 0):=by
    have I:=y.cell (i:=i+1) (by omega);rw[I];show some (Value.int .u32 (dg (o ++ [c]) (i+1):Nat))=_;rw[zkh,if_neg (by have:=HI.o.2.1;omega),if_neg (by have:=HI.o.2.1;omega)];rfl
   have hf3:=y.frozen (i+1);obtain⟨q1,q2,q3⟩:=Ka J hs HI.o.1;obtain⟨t,ht⟩:∃t,t=x*2^s:=⟨_,rfl⟩
   rw[<-ht]at q1 q2 q3
   have ae:t<18446744073709551616:=by
    have I:x*2^s<4294967296*2^s:=xI J (yK (by decide));have h2:2^s<2^32:=Nat.pow_lt_pow_right (by decide) hs;have h3:(2:Nat)^32=4294967296:=by decide
    omega
   have hsh:IntKind.u64.wrap ((x:Int)*2^s)=(t:Int):=by
    have e:(x:Int)*2^s=((x*2^s:Nat):Int):=by push_cast;rfl
    rw[e,<-ht];exact Yg ae
   obtain⟨lo,X⟩:∃lo,lo=t % Z9:=⟨_,rfl⟩
   obtain⟨h,hh⟩:∃h,h=t / Z9:=⟨_,rfl⟩
   rw[<-X]at q1 q3;rw[<-hh]at q2;have hlo':(t:Int) % 4294967296=(lo:Int):=by rw[X];rfl
   have hhi':(t:Int) / 4294967296=(h:Int):=by rw[hh];rfl
   have hh2:(h:Int) % 4294967296=(h:Int):=by
    have I:h<4294967296:=by rw[hh];show t / 4294967296<4294967296;omega
    omega
   have hor:bits .or .u32 (c:Int) (lo:Int)=((c+lo:Nat):Int):=GH s c lo hs HI.o.1 (by omega) q3;have HQ:=Z_ (zS q1 q2);have HT:=Z_ (zS ht (zS X hh));have ag:=Z_ Z;have HXB:=Z_ J;have hx64:IntKind.u64.wrap (x:Int)=(x:Int):=Yg (yD J (by decide));clear y hx q1 q2 q3 ht X hh Z ae J;go_wp2;obtain⟨aa,D,O,U⟩:=HI.o
   refine⟨⟨i+1,h,o ++ [c+lo],rfl,by omega,Z_ ⟨HQ.o.2,by simp[D],?_,?_⟩,?_,?_⟩,?_⟩
   ·intro z hz
    rcases zC.1 hz with I|I
    ·exact O z I
    ·rw[zQ.1 I];exact HQ.o.1
   ·rw[z64,D,TR ag.o,y8,<-U,zu,<-HT.o.1];have h3:t=lo+Z9*h:=by rw[HT.o.2.1,HT.o.2.2];exact(wL t Z9).symm
    rw[h3,yY,zy,zy,zu];omega
   ·have I:=Vq HR.o i (c+lo) (by simp;omega);have e:(o ++ [c]).set i (c+lo)=o ++ [c+lo]:=by rw[<-D];simp
    rw[e]at I;have h2:=WX I h;have e2:(o ++ [c+lo]).length=i+1:=by simp[D]
    rw[e2]at h2;have e3:((c+lo:Nat):Int)=(c:Int)+(lo:Int):=by push_cast;rfl
    rw[e3]at h2;exact h2
   ·exact(HX.o.setCell (zR _) _).setCell (zR _) _
   ·simp only[intOf];omega
  ·obtain rfl:i=L:=by omega
   obtain⟨aa,D,O,U⟩:=HI.o
   have ad:∀z∈o ++ [c],z<Z9:=by
    intro z hz
    rcases zC.1 hz with I|I
    ·exact O z I
    ·rw[zQ.1 I];exact zU aa (show 2^s<=2^32 from zA (by decide) (by omega))
   have K:val Z9 (o ++ [c])=V*2^s:=by
    rw[z64,D,U,HL.o,yW,ZB ZU]
   have hu:U32s (λ k=>k=w.heap.size) wr (.slice (some ⟨w.heap.size,0,none⟩) (o ++ [c]).length (i+1)) (o ++ [c]):=uA y (by simp;omega) ad (by omega);have CS:=Z_ (ES _ _ _ _ hu);have e2:(o ++ [c]).length=i+1:=by simp[D]
   rw[e2,K]at CS
   have HS:Hd (wr.rowIs w.heap.size 75 (i+1) (rowU (Z4 Z9 (V*2^s)))):=Z_ (by
    rw[<-RL (Lo ad _ K)]
    exact y)
   clear y hx aa D O U ad K hu e2;go_wp2_with fail;refine CS.o.mono ?_;rintro e w' ⟨rfl,rfl⟩;go_wp2
   all_goals
    go_ret2;have hl:=HL.o;have ac:=HS.o;rw[HV.o]at hl ac;rw[<-hl,<-HV.o];rw[<-HV.o]at ac;exact⟨_,rfl,zR _,HS.o.lt,ac,HX.o⟩
end
section
open Go.RowKit
theorem Pw{N s i x y r:Nat}(hs:s<32)(h:N / Z9^i=x+Z9*(y+Z9*r)):N / 2^s / Z9^i % Z9=(x+Z9*y) / 2^s % Z9:=by
 have I:=K6 hs;have D:0<2^s:=yK (by decide);have e:N / 2^s / Z9^i=N / Z9^i / 2^s:=by rw[wu,wu,zq]
 have z:x+Z9*(y+Z9*r)=(x+Z9*y)+2^s*(2^(32-s)*(Z9*r)):=by
  rw[zy,<-zu (2^s),zq (2^s),I];omega
 rw[e,h,z,wT _ _ D,show 2^(32-s)*(Z9*r)=Z9*(2^(32-s)*r) from xK _ _ _,xx]
theorem GR{M i d:Nat}{o:List Nat}(hv:val Z9 o=M % Z9^i)(ho:o.length=i)(hd:d=M / Z9^i % Z9):val Z9 (o ++ [d])=M % Z9^(i+1):=by
 rw[z64,ho,hv,hd,yY,Nat.mod_mul]
theorem KK(l:List Nat)(hl:∀z∈l,z<Z9)(i:Nat):val Z9 l / Z9^i=dg l i+Z9*(dg l (i+1)+Z9*val Z9 (l.drop (i+2))):=by
 rw[<-z1t,<-z1t];have h:=Xv (B:=Z9) l i
 by_cases hi:i<=l.length
 ·rw[xR hi]at h
  have D:val Z9 (l.take i)<Z9^i:=by
   have y:=Y4 (l.take i) (λ z hz=>hl z (yU hz))
   rwa [zD,xR hi]at y
  rw[h,wT _ _ (yK (by decide)),yb D,zr]
 ·rw[zt (by omega)];have y:=Y4 l hl;have h4:Z9^l.length<=Z9^i:=zA (by decide) (by omega);rw[yb (by omega)];rfl
theorem Jz(x y:Nat)(hx:x<Z9)(hy:y<Z9):bits .or .u64 (x:Int) ((y:Int)*4294967296)=((x+Z9*y:Nat):Int):=by
 have z:x<2^64:=yD hx (by decide)
 have D:y*4294967296<2^64:=by
  have h:y<4294967296:=hy;show y*4294967296<18446744073709551616;omega
 have e:(y:Int)*4294967296=((y*4294967296:Nat):Int):=by omega
 rw[e,(bits_nat .u64 64 (by decide) R9 x _ z D).2,Nat.or_comm];have h:=SB y x hy hx;rw[e,(bits_nat .u64 64 (by decide) R9 _ x D z).2]at h;rw[h];show((y*4294967296+x:Nat):Int)=((x+4294967296*y:Nat):Int);omega
theorem Ic{S:Nat->Prop}(v:Value)(zs:List Nat)(s:Nat)(w:World)(h:U32s S w v zs)(hS:∀k,S k->k<w.heap.size)(hr:zs.length<=1000000000000)(hs:s<32) :
  Calls Tryz.prog 139 #[v,.int .i64 (s:Nat)] w λ e w'=>∃v',e=.returned (.tuple #[v',.int .i64 0])/\U32s (New w w') w' v' (Z4 Z9 (val Z9 zs / 2^s))/\Ext w w':=by
 have ai:(Z4 Z9 (val Z9 zs)).length<=zs.length:=YZ ZU _ _ (Y4 zs h.lt);have H:=Z_ h;obtain⟨a,cap,rfl⟩:=h.form;clear h;have CM:=Z_ (OR s hs w)
 go_enter Tryz.func139,Tryz.ntmps139
 go_wp2_with fail;refine CM.o.mono ?_;rintro e w1 ⟨rfl,rfl⟩;go_wp2_with fail;refine(Xo _ zs _ H.o).mono ?_;rintro e w' ⟨v',rfl,Z,rfl⟩;have K:((s:Int)).tdiv 32=0:=by rw[wU (by omega)];omega
 have hx2:((s:Int)).tmod 32=(s:Int):=by rw[vQ (by omega)];omega
 obtain⟨L,hL⟩:∃L,L=(Z4 Z9 (val Z9 zs)).length:=⟨_,rfl⟩
 have HU:=Z_ Z;obtain⟨a',c',rfl⟩:=Z.form;rw[<-hL]at HU ai⊢;have hmk:=run_make_row' (P:=Tryz.prog) 26 75 (.int .u32 0) 4 Tryz.underlying26 uC rfl .i64 .i64 L (by omega) (by omega) w;obtain⟨V,hV⟩:∃V,V=val Z9 zs:=⟨_,rfl⟩
 rw[<-hV]at HU hL;have HL:=Z_ hL;have HV:=Z_ hV;have HLE:=Z_ ai;have ar:=Z_ (Tc w L 75);have aq:=Z_ (uO (uP w) (.cells (madeCells #[.int .u32 0] L) 75));clear Z hL hV;go_wp2
 go_loopw [26] (λ s26 wr=>∃(i:Nat) (o:List Nat),s26=.int .i64 (i:Nat)/\i<=L/\Hd (o.length=i/\(∀z∈o,z<Z9)/\val Z9 o=V / 2^s % Z9^i) /\
  wr.rowIs w.heap.size 75 L (rowU o)/\Ext w wr) (λ s26 _=>L-(intOf s26).toNat)
 case atStart=>
  refine⟨0,[],rfl,zL _,Z_ ⟨rfl,by simp,by simp[val,Nat.mod_one]⟩,?_,aq.o⟩;have e:rowU []=rowU (List.replicate L 0):=RL λ j=>by rw[zav];rfl
  rw[e];exact ar.o
 case round=>
  obtain⟨i,o,rfl,hi,HI,D,hx⟩:=hrel;have HR:=Z_ D;have HX:=Z_ hx
  by_cases ag:i<L
  ·obtain⟨x,K⟩:=ZN (l:=Z4 Z9 V) (j:=i) (by rw[<-HL.o];exact ag);obtain⟨b1,o1,ac,-,hn1,hm1,-,I,hc1⟩:=(HU.o.to (uM hx hS) (λ _ h=>h)).cellAt K;have hf2:=D.frozen i
   have hc2:wr.cell? ⟨w.heap.size,i,none⟩=some (.int .u32 0):=by
    rw[D.cell (i:=i) ag];show some (Value.int .u32 (dg o i:Nat))=_;rw[Yv (by have:=HI.o.1;omega)];rfl
   have HX1:=Z_ K;have HXB:=Z_ I;have HD:=Z_ (KK (Z4 Z9 V) (XX ZU V) i);rw[ZB ZU,Zi K]at HD
   have aj:∀t:Nat,t / 2^s % Z9=V / 2^s / Z9^i % Z9->(∃(i_1:Nat) (o:List Nat),Value.int IntKind.i64 ((i:Int)+1)=Value.int IntKind.i64 (i_1:Nat)/\i_1<=L /\
     Hd (o.length=i_1/\(∀(z:Nat),z∈o->z<Z9)/\val Z9 o=V / 2^s % Z9^i_1) /\
      (wr.setCell ⟨w.heap.size,i,none⟩ (Value.int IntKind.u32 ((t:Int) / 2^s % 4294967296))).rowIs w.heap.size 75 L (rowU o) /\
       Ext w (wr.setCell ⟨w.heap.size,i,none⟩ (Value.int IntKind.u32 ((t:Int) / 2^s % 4294967296)))) /\
     L-(intOf (Value.int IntKind.i64 ((i:Int)+1))).toNat<L-(intOf (Value.int IntKind.i64 (i:Int))).toNat:=by
    intro t ht;obtain⟨J,U,X⟩:=HI.o
    have e:(t:Int) / 2^s % 4294967296=((t / 2^s % Z9:Nat):Int):=by
     have e1:(t:Int) / 2^s=((t / 2^s:Nat):Int):=by push_cast;rfl
     rw[e1];show((t / 2^s:Nat):Int) % 4294967296=((t / 2^s % 4294967296:Nat):Int);omega
    rw[e]
    refine⟨⟨i+1,o ++ [t / 2^s % Z9],rfl,by omega,Z_ ⟨by simp[J],?_,GR X J ht⟩,?_,HX.o.setCell (zR _) _⟩,?_⟩
    ·intro z hz
     rcases zC.1 hz with O|O
     ·exact U z O
     ·rw[zQ.1 O];exact yS _ (by decide)
    ·have O:=WX HR.o (t / 2^s % Z9);rw[J]at O;exact O
    ·simp only[intOf];omega
   have af:=Z_ aj;clear D hx K aj;subst ac
   by_cases h2:i+1<L
   ·obtain⟨y,ad⟩:=ZN (l:=Z4 Z9 V) (j:=i+1) (by rw[<-HL.o];exact h2);obtain⟨b3,o3,ac,-,-,-,-,ae,hc3⟩:=(HU.o.to (uM HX.o hS) (λ _ h=>h)).cellAt ad;obtain⟨rfl,rfl⟩:b1=b3/\o1=o3:=by simpa using ac
    have ah:IntKind.u64.wrap (x:Int)=(x:Int):=Yg (yD I (by decide));have hy64:IntKind.u64.wrap (y:Int)=(y:Int):=Yg (yD ae (by decide));have al:=Jz x y I ae;obtain⟨t,ht⟩:∃t,t=x+Z9*y:=⟨_,rfl⟩
    rw[<-ht]at al;have HT:=Z_ ht;have ap:=Z_ ad;have HYB:=Z_ ae;clear I ad ht;go_wp2;refine af.o t ?_;have hd:=HD.o;rw[Zi ap.o]at hd;rw[Pw hs hd,HT.o]
   ·have ah:IntKind.u64.wrap (x:Int)=(x:Int):=Yg (yD I (by decide));clear I;go_wp2;refine af.o x ?_;have hd:=HD.o;rw[Yv (by have:=HL.o;omega)]at hd;rw[Pw hs hd,yw,zp]
  ·obtain rfl:i=L:=by omega
   obtain⟨J,U,X⟩:=HI.o
   have aa:val Z9 o=V / 2^s:=by
    rw[X];refine yB (zh (yt _ _) ?_);have O:=Y4 (Z4 Z9 V) (XX ZU V)
    rwa [ZB ZU,<-HL.o]at O
   have Z:U32s (λ k=>k=w.heap.size) wr (.slice (some ⟨w.heap.size,0,none⟩) i i) o:=by
    have O:=uA D (by omega) U (by omega)
    rwa [J]at O
   have CS:=Z_ (Xo _ _ _ Z);rw[aa]at CS;have HG:=Z_ D.lt;clear D hx J U X aa Z;go_wp2_with fail;refine CS.o.mono ?_;rintro e w' ⟨v',rfl,Z,rfl⟩;have H:=Z_ Z;clear Z;go_wp2
   all_goals
    go_ret2;refine⟨_,rfl,?_,HX.o⟩;rw[<-HV.o];refine H.o.to (uN _ _) (λ k hk=>?_);subst hk;exact⟨zR _,HG.o⟩
end
section
open Go.RowKit
def Zq:ByteArray:=⟨#[0,1,2,2,3,3,3,3,4,4,4,4,4,4,4,4,5,5,5,5,5,5,5,5,5,5,5,5,5,5,5,5,6,6,6,6,6,6,6,6,6,6,6,6,6,6,6,6,6,6,6,6,6,6,6,6,6,6,6,6,6,6,6,6,7,7,7,7,7,7,7,7,7,7,7,7,7,7,7,7,7,7,7,7,7,7,7,7,7,7,7,7,7,7,7,7,7,7,7,7,7,7,7,7,7,7,7,7,7,7,7,7,7,7,7,7,7,7,7,7,7,7,7,7,7,7,7,7,8,8,8,8,8,8,8,8,8,8,8,8,8,8,8,8,8,8,8,8,8,8,8,8,8,8,8,8,8,8,8,8,8,8,8,8,8,8,8,8,8,8,8,8,8,8,8,8,8,8,8,8,8,8,8,8,8,8,8,8,8,8,8,8,8,8,8,8,8,8,8,8,8,8,8,8,8,8,8,8,8,8,8,8,8,8,8,8,8,8,8,8,8,8,8,8,8,8,8,8,8,8,8,8,8,8,8,8,8,8,8,8,8,8,8,8,8,8,8,8,8,8,8,8,8,8,8,8]⟩
theorem VJ:Zq.size=256:=by decide +kernel
theorem Ds:∀i:Fin 256,(Zq.get! i.val).toNat<=8/\(0<i.val->1<=(Zq.get! i.val).toNat):=by decide +kernel
theorem St(x:Int)(h0:0<=x)(h1:x<256)(h:x.toNat<Zq.size):(Zq[x.toNat]'h).toNat<=8/\(0<x->1<=(Zq[x.toNat]'h).toNat):=by
 have:=Ds ⟨x.toNat,by omega⟩
 have e:Zq.get! x.toNat=Zq[x.toNat]'h:=by
  have h2:x.toNat<Zq.data.size:=h;show Zq.data[x.toNat]! = Zq.data[x.toNat]'h2;exact getElem!_pos _ _ _
 simp only[e]at this;exact⟨this.1,λ hx=>this.2 (by omega)⟩
theorem FK(x:Int)(w:World)(h0:0<=x)(h1:x<4294967296) :
  Calls Tryz.prog 101 #[.int .u32 x] w λ e w'=>∃n:Int,e=.returned (.int .i64 n)/\0<=n/\n<=32/\(0<x->0<n)/\w=w':=by
 go_enter Tryz.func101,Tryz.ntmps101
 rcases(show 16777216<=x∨65536<=x/\x<16777216∨256<=x/\x<65536∨x<256 by omega) with h|⟨h,I⟩|⟨h,I⟩|h
 ·go_wp2;go_ret;simp only[yJ,yv,yO,yu,yA];generalize hv:UInt8.toNat _=t;have hb:=St (x / 65536 / 256) (by omega) (by omega) (by rw[VJ];omega);have y:t<=8/\(0<x / 65536 / 256->1<=t):=hv ▸ hb;obtain⟨z,D⟩:=y;clear hb hv;refine⟨_,rfl,?_,?_,λ hx=>?_,trivial⟩<;>(unfold wrap64;omega)
 ·go_wp2;go_ret;simp only[yJ,yv,yO,yu,yA];generalize hv:UInt8.toNat _=t;have hb:=St (x / 65536) (by omega) (by omega) (by rw[VJ];omega);have y:t<=8/\(0<x / 65536->1<=t):=hv ▸ hb;obtain⟨z,D⟩:=y;clear hb hv;refine⟨_,rfl,?_,?_,λ hx=>?_,trivial⟩<;>(unfold wrap64;omega)
 ·go_wp2;go_ret;simp only[yJ,yv,yO,yu,yA];generalize hv:UInt8.toNat _=t;have hb:=St (x / 256) (by omega) (by omega) (by rw[VJ];omega);have y:t<=8/\(0<x / 256->1<=t):=hv ▸ hb;obtain⟨z,D⟩:=y;clear hb hv;refine⟨_,rfl,?_,?_,λ hx=>?_,trivial⟩<;>(unfold wrap64;omega)
 ·go_wp2;go_ret;simp only[yJ,yv,yO,yu,yA];generalize hv:UInt8.toNat _=t;have hb:=St (x) (by omega) (by omega) (by rw[VJ];omega);have y:t<=8/\(0<x->1<=t):=hv ▸ hb;obtain⟨z,D⟩:=y;clear hb hv;refine⟨_,rfl,?_,?_,λ hx=>?_,trivial⟩<;>(unfold wrap64;omega)
end
section
open Go.RowKit
theorem Cd{S:Nat->Prop}(v:Value)(zs:List Nat)(w:World)(h:U32s S w v zs)(hr:zs.length<=50000000000000) :
  Calls Tryz.prog 62 #[v] w λ e w'=>∃n:Int,e=.returned (.int .i64 n)/\0<=n/\n<=9223372036854775807/\(n=0↔val Z9 zs=0)/\w=w':=by
 have O:(Z4 Z9 (val Z9 zs)).length<=zs.length:=YZ ZU _ _ (Y4 zs h.lt);have H:=Z_ h;obtain⟨a,c,rfl⟩:=h.form;clear h
 go_enter Tryz.func62,Tryz.ntmps62
 go_wp2_with fail;refine(Xo _ zs _ H.o).mono ?_;rintro e w' ⟨v',rfl,I,rfl⟩;generalize K:val Z9 zs=n at I O;have X:=Z_ K;have HU:=Z_ I;obtain⟨a',c',rfl⟩:=I.form;clear I K
 by_cases y:n=0
 ·have Z:(Z4 Z9 n).length=0:=by rw[y];rfl
  have hb:(((Z4 Z9 n).length:Int) == 0)=true:=by rw[beq_iff_eq];omega
  have J:=Z_ y;clear y Z;go_wp2;go_ret;exact⟨0,rfl,by omega,by omega,by rw[X.o,J.o];simp,rfl⟩
 ·have Z:0<(Z4 Z9 n).length:=by
   rw[yF,Ne,WG ZU];exact y
  obtain⟨z,U⟩:=ZN (show(Z4 Z9 n).length-1<(Z4 Z9 n).length by omega)
  have hz0:0<z:=by
   have h1:=Rc ZU n;rw[xz,U]at h1;have:z≠0:=λ e=>h1 (by rw[e]);omega
  obtain⟨b,off,rfl,-,K,hm,-,hzb,hc⟩:=HU.o.cellAt U;have hb:(((Z4 Z9 n).length:Int) == 0)=false:=by rw[beq_eq_false_iff_ne];omega
  have J:=Z_ y;clear y U;go_wp2_with fail;refine(FK (z:Nat) _ (by omega) (by omega)).mono ?_;rintro e w' ⟨k,rfl,hk1,hk2,D,rfl⟩;have hk:=D (by omega);clear D;go_wp2;go_ret;refine⟨32*(((Z4 Z9 n).length:Int)-1)+k,rfl,by omega,by omega,?_,rfl⟩;rw[X.o];have:=J.o;omega
theorem X5{S:Nat->Prop}(v:Value)(r:RInt)(w:World)(h:IntV S w v r)(hS:∀k,S k->k<w.heap.size)(hr:r.mag.length<=50000000000000) :
  Calls Tryz.prog 36 #[v] w λ e w'=>e=.returned (.int .i64 (Zx (Z6 r)))/\Ext w w':=by
 obtain⟨ng,y⟩:=r;obtain⟨vm,rfl,K⟩:=h;simp only at K hr⊢;have H:=Z_ K;obtain⟨a,c,rfl⟩:=K.form;clear K;have J:=Z_ (uO (uP w) (.cells #[.bool ng,.slice a y.length c] 28))
 go_enter Tryz.func36,Tryz.ntmps36
 go_wp2_with fail;refine(Cd _ y _ (H.o.to (uM J.o hS) (λ _ h=>h)) hr).mono ?_;rintro e w' ⟨n,rfl,hn1,hn2,I,rfl⟩;have U:=Z_ I;clear I
 by_cases z:n=0
 ·have hb:(n == 0)=true:=by rw[beq_iff_eq];exact z
  have O:=Z_ z;clear z
  have D:Hd (Zx (Z6 ⟨ng,y⟩)=0):=Z_ (by
   have:=U.o.1 O.o;unfold Zx Z6
   simp[this,cmpI])
  go_wp2;go_ret;exact⟨by rw[D.o];rfl,J.o⟩
 ·have hb:(n == 0)=false:=by rw[beq_eq_false_iff_ne];exact z
  have O:=Z_ z;clear z;have X:val Z9 y≠0:=λ e=>O.o (U.o.2 e)
  cases ng with
  |true=>
   have D:Hd (Zx (Z6 ⟨true,y⟩) = -1):=Z_ (by
    unfold Zx Z6;rw[WN];simp
    omega)
   clear X;go_wp2;go_ret;exact⟨by rw[D.o];rfl,J.o⟩
  |false=>
   have D:Hd (Zx (Z6 ⟨false,y⟩)=1):=Z_ (by
    unfold Zx Z6;rw[Wi];simp
    omega)
   clear X;go_wp2;go_ret;exact⟨by rw[D.o];rfl,J.o⟩
end
section
open Go.RowKit
attribute [local go_sem ↓] Go.wp_at_zero Go.wp_at_succ
theorem Pows.ext{S:Nat->Prop}{w W:World}{v:Value}{zs:Z7}(h:Pows S w v zs)(hx:Ext w W)(hS:∀k,S k->k<w.heap.size):Pows S W v zs:=h.to (uM hx hS) (λ _ h=>h)
theorem z06.ext{S:Nat->Prop}{w W:World}{v:Value}{zs:List RTerm}(h:z06 S w v zs)(hx:Ext w W)(hS:∀k,S k->k<w.heap.size):z06 S W v zs:=h.to (uM hx hS) (λ _ h=>h)
theorem z06.cellAt{S:Nat->Prop}{w:World}{ts:List RTerm}{a:Option Addr}{n cap k:Nat}{t:RTerm}(h:z06 S w (.slice a n cap) ts)(ht:ts[k]? = some t) :
  ∃b off vm vo,a=some ⟨b,off,none⟩/\n=ts.length/\n<=cap/\cap<=9223372036854775807/\S b/\w.cell? ⟨b,off+k*3,none⟩=some (.bool t.c.neg)/\w.cell? ⟨b,off+k*3+1,none⟩=some vm/\w.cell? ⟨b,off+k*3+2,none⟩=some vo/\U32s S w vm t.c.mag/\Pows S w vo t.m:=by
 obtain⟨b,off,⟨a',y,h1,I,U,K,J⟩,hc⟩:=h;obtain⟨rfl,rfl,rfl⟩:a=a'/\n=ts.length/\cap=y:=by simpa using h1
 have z:0<ts.length:=by have:=Zy ht;omega
 obtain⟨vm,vo,g1,Z,X,D,O⟩:=hc k t ht;exact⟨b,off,vm,vo,K z,rfl,I,U,J z,g1,Z,X,D,O⟩
theorem z06.len_le{S:Nat->Prop}{w:World}{v:Value}{zs:List RTerm}(h:z06 S w v zs):zs.length<=9223372036854775807:=by
 obtain⟨b,off,⟨a,cap,h1,h2,h3,_⟩,_⟩:=h;unfold maxLen at h3;omega
theorem z06.okT{S:Nat->Prop}{w:World}{v:Value}{zs:List RTerm}(h:z06 S w v zs):okT zs:=by
 obtain⟨b,off,hs,hc⟩:=h;intro t ht;obtain⟨j,hj⟩:=yp ht;obtain⟨vm,vo,g1,g2,g3,g4,g5⟩:=hc j t hj;exact g4.lt
theorem XS{S:Nat->Prop}{w:World}{ng:Bool}{zs:List Nat}{vm:Value}(h:U32s S w vm zs):IntV S w (.agg #[.bool ng,vm]) ⟨ng,zs⟩:=⟨vm,rfl,h⟩
def Yk(ts:List RTerm):Prop:=∀t∈ts,t.c.mag.length<=40000000000000
def befT(ts:List RTerm):Nat->Option RTerm
 |0=>none
 |k+1=>ts[k]?
theorem DI{ts:List RTerm}{k:Nat}{t:RTerm}(ht:ts[k]? = some t):z5r (befT ts k) (ts.drop k)=(z2s t && (match befT ts k with|none=>true|some u=>decide (0<XF u.m t.m)) && z5r (befT ts (k+1)) (ts.drop (k+1))):=by
 rw[Wh ht];simp only[befT,ht];rfl
theorem Py{r:RInt}:Zx (Z6 r)=0↔val Z9 r.mag=0:=by
 unfold Zx Z6;rw[z7u]
 cases r.neg<;>simp
theorem Oa{t:RTerm}(h:Zx (Z6 t.c)=0):z2s t=false:=by
 unfold z2s;rw[Py]at h;simp[h]
theorem Lw{t:RTerm}(h:YK t.c=false):z2s t=false:=by
 unfold z2s;simp[h]
theorem NF{t:RTerm}(h:Z3 t.m=false):z2s t=false:=by
 unfold z2s;simp[h]
theorem On{t:RTerm}(h1:Zx (Z6 t.c)≠0)(h2:YK t.c=true)(h3:Z3 t.m=true):z2s t=true:=by
 unfold z2s;rw[Ne,Py]at h1;simp[h1,h2,h3]
theorem QG(a b:Z7):-1<=XF a b/\XF a b<=1:=by
 unfold XF
 split
 ·rename_i hmm
  simp only[zK]at hmm;rcases VQ hmm.1 hmm.2 with h|h|h<;>omega
 ·omega
theorem Wy{S:Nat->Prop}(v:Value)(ts:List RTerm)(w:World)(h:z06 S w v ts)(hS:∀k,S k->k<w.heap.size)(hr:Yk ts) :
  Calls Tryz.prog 30 #[v] w λ e w'=>e=.returned (.bool (ZR ts))/\Ext w w':=by
 have hnot:∀(x:Bool) (w:World),(Op.unary .not (.bool x)).run Tryz.prog w=.ok (.bool (!x)) w:=λ _ _=>rfl;have hl:=h.len_le;have H:=Z_ h;have ay:=Z_ hr;obtain⟨a,cap,rfl⟩:=h.form;clear h hr
 go_enter Tryz.func30,Tryz.ntmps30
 go_wp2
 go_loopw [7] (λ i wr=>∃k:Nat,k<=ts.length/\i=.int .i64 k/\Ext w wr/\ZR ts=z5r (befT ts k) (ts.drop k)) (λ i _=>ts.length-(intOf i).toNat)
 case atStart=>exact⟨0,zL _,rfl,uP _,rfl⟩
 case round=>
  obtain⟨k,hk,rfl,hx,hm⟩:=hrel
  by_cases aA:k<ts.length
  ·obtain⟨t,ht⟩:=ZN aA;obtain⟨b,off,vm,vo,rfl,-,hn1,hm1,hSb,h1,h2,h3,h4,h5⟩:=H.o.cellAt ht;have al:=DI ht;have ah:=ay.o t (zP ht);rw[al]at hm;have HM:=Z_ hm;have HT:=Z_ ht;obtain⟨⟨ng,D⟩,m⟩:=t;simp only at h1 h2 h3 h4 h5 ah;have H4:=Z_ h4;have H5:=Z_ h5;obtain⟨am,Z,rfl⟩:=h4.form;obtain⟨ao,co,rfl⟩:=h5.form;have g1:=uz hx h1;have g2:=uz hx h2;have g3:=uz hx h3;have z:=Z_ (hx.alloc (.cells #[.bool ng,.slice am D.length Z,.slice ao m.length co] 54));have L0:=λ X:Later (wr.alloc (.cells #[.bool ng,.slice am D.length Z,.slice ao m.length co] 54))=>X.h.new_cell (i:=0) (v:=.bool ng) rfl;have L1:=λ X:Later (wr.alloc (.cells #[.bool ng,.slice am D.length Z,.slice ao m.length co] 54))=>X.h.new_cell (i:=1) (v:=.slice am D.length Z) rfl;have L2:=λ X:Later (wr.alloc (.cells #[.bool ng,.slice am D.length Z,.slice ao m.length co] 54))=>X.h.new_cell (i:=2) (v:=.slice ao m.length co) rfl;have HX:=Z_ hx;have ad:=Z_ ah;clear hm ht h1 h2 h3 h4 h5 hx al ah
   cases k with
   |zero=>
    simp only[yE,zp]at g1 g2 g3;obtain⟨ac,y⟩:∃s,Zx (Z6 ⟨ng,D⟩)=s:=⟨_,rfl⟩
    by_cases ae:ac=0
    ·subst ae;have I:=λ(W:World) (h:IntV S W (.agg #[.bool ng,.slice am D.length Z]) ⟨ng,D⟩) y=>X5 (S:=S) _ _ W h y (zT ad.o (by decide));simp only[y]at I;have J:=Z_ I;clear I;have HF:Hd (ZR ts=false):=Z_ (by rw[HM.o,Oa y];rfl);clear y;go_wp2;refine Zh (by kernel_rfl) (by kernel_rfl) ?_
     repeat (go_big_quiet_step (first|(go_at_call 36;exact uL (J.o _ (XS (H4.o.ext (z.o.trans (Later.h _)) hS)) (ZM hS (z.o.trans (Later.h _)))))))
     refine wpQuiet_nil ?_;intro W U;have HW:=Z_ (z.o.trans U);clear U;go_wp2
     all_goals
      go_ret;exact⟨by rw[HF.o];rfl,HW.o⟩
    ·have aB:(ac == 0)=false:=by rw[beq_eq_false_iff_ne];exact ae
     have ag:-1<=ac/\ac<=1:=by rw[<-y];unfold Zx;rcases Uu (Z6 ⟨ng,D⟩) 0 with h|h|h<;>omega
     obtain⟨ai,ar⟩:=ag
     cases hi:YK ⟨ng,D⟩ with
     |false=>
      have I:=λ(W:World) (h:IntV S W (.agg #[.bool ng,.slice am D.length Z]) ⟨ng,D⟩) y=>X5 (S:=S) _ _ W h y (zT ad.o (by decide));simp only[y]at I;have J:=Z_ I;clear I;have O:=λ(W:World) (h:IntV S W (.agg #[.bool ng,.slice am D.length Z]) ⟨ng,D⟩) y=>Vy (S:=S) _ _ W h y;simp only[hi]at O;have K:=Z_ O;clear O;have HF:Hd (ZR ts=false):=Z_ (by rw[HM.o,Lw hi];rfl);clear y;clear hi;go_wp2;refine Zh (by kernel_rfl) (by kernel_rfl) ?_
      repeat (go_big_quiet_step (first|(go_at_call 36;exact uL (J.o _ (XS (H4.o.ext (z.o.trans (Later.h _)) hS)) (ZM hS (z.o.trans (Later.h _)))))|(go_at_call 53;exact uL (K.o _ (XS (H4.o.ext (z.o.trans (Later.h _)) hS)) (ZM hS (z.o.trans (Later.h _)))))))
      refine wpQuiet_nil ?_;intro W U;have HW:=Z_ (z.o.trans U);clear U;go_wp2
      all_goals
       go_ret;exact⟨by rw[HF.o];rfl,HW.o⟩
     |true=>
      cases hq:Z3 m with
      |false=>
       have I:=λ(W:World) (h:IntV S W (.agg #[.bool ng,.slice am D.length Z]) ⟨ng,D⟩) y=>X5 (S:=S) _ _ W h y (zT ad.o (by decide));simp only[y]at I;have J:=Z_ I;clear I;have O:=λ(W:World) (h:IntV S W (.agg #[.bool ng,.slice am D.length Z]) ⟨ng,D⟩) y=>Vy (S:=S) _ _ W h y;simp only[hi]at O;have K:=Z_ O;clear O;have CQ:=λ(W:World) (h:Pows S W (.slice ao m.length co) m) y=>XG (S:=S) _ _ W h y;simp only[hq]at CQ;have aa:=Z_ CQ;clear CQ;have HF:Hd (ZR ts=false):=Z_ (by rw[HM.o,NF hq];rfl);clear y;clear hi;clear hq;go_wp2;refine Zh (by kernel_rfl) (by kernel_rfl) ?_
       repeat (go_big_quiet_step (first|(go_at_call 36;exact uL (J.o _ (XS (H4.o.ext (z.o.trans (Later.h _)) hS)) (ZM hS (z.o.trans (Later.h _)))))|(go_at_call 53;exact uL (K.o _ (XS (H4.o.ext (z.o.trans (Later.h _)) hS)) (ZM hS (z.o.trans (Later.h _)))))|(go_at_call 54;exact uL (aa.o _ (H5.o.ext (z.o.trans (Later.h _)) hS) (ZM hS (z.o.trans (Later.h _)))))))
       refine wpQuiet_nil ?_;intro W U;have HW:=Z_ (z.o.trans U);clear U;go_wp2
       all_goals
        go_ret;exact⟨by rw[HF.o];rfl,HW.o⟩
      |true=>
       have I:=λ(W:World) (h:IntV S W (.agg #[.bool ng,.slice am D.length Z]) ⟨ng,D⟩) y=>X5 (S:=S) _ _ W h y (zT ad.o (by decide));simp only[y]at I;have J:=Z_ I;clear I;have O:=λ(W:World) (h:IntV S W (.agg #[.bool ng,.slice am D.length Z]) ⟨ng,D⟩) y=>Vy (S:=S) _ _ W h y;simp only[hi]at O;have K:=Z_ O;clear O;have CQ:=λ(W:World) (h:Pows S W (.slice ao m.length co) m) y=>XG (S:=S) _ _ W h y;simp only[hq]at CQ;have aa:=Z_ CQ;clear CQ;have HF:Hd (ZR ts=z5r (befT ts (0+1)) (ts.drop (0+1))):=Z_ (by rw[HM.o,On (by rw[y];exact ae) hi hq];rfl);clear y;clear hi;clear hq;go_wp2;refine Zh (by kernel_rfl) (by kernel_rfl) ?_
       repeat (go_big_quiet_step (first|(go_at_call 36;exact uL (J.o _ (XS (H4.o.ext (z.o.trans (Later.h _)) hS)) (ZM hS (z.o.trans (Later.h _)))))|(go_at_call 53;exact uL (K.o _ (XS (H4.o.ext (z.o.trans (Later.h _)) hS)) (ZM hS (z.o.trans (Later.h _)))))|(go_at_call 54;exact uL (aa.o _ (H5.o.ext (z.o.trans (Later.h _)) hS) (ZM hS (z.o.trans (Later.h _)))))))
       refine wpQuiet_nil ?_;intro W U;have HW:=Z_ (z.o.trans U);clear U;go_wp2
       go_roundw
       case rel=>exact⟨_,by omega,by go_num,HW.o,HF.o⟩
       case measure=>simp only[intOf];omega
   |succ k=>
    obtain⟨u,hu⟩:=ZN (show k<ts.length by omega);obtain⟨b',au,vmu,vou,aj,-,-,-,-,u1,u2,u3,u4,u5⟩:=H.o.cellAt hu;obtain⟨rfl,rfl⟩:b=b'/\off=au:=by simpa using aj
    have aq:=Z_ u5;obtain⟨ap,cp,rfl⟩:=u5.form;have av:Hd (befT ts (k+1)=some u):=Z_ hu;have L3:=λ X:Later (wr.alloc (.cells #[.bool ng,.slice am D.length Z,.slice ao m.length co] 54))=>X.cell (z.o.cell u3);have hq0:((k:Nat):Int)+1-1=(k:Int):=by omega
    clear u1 u2 u3 u4 u5 hu aj;obtain⟨ac,y⟩:∃s,Zx (Z6 ⟨ng,D⟩)=s:=⟨_,rfl⟩
    by_cases ae:ac=0
    ·subst ae;have I:=λ(W:World) (h:IntV S W (.agg #[.bool ng,.slice am D.length Z]) ⟨ng,D⟩) y=>X5 (S:=S) _ _ W h y (zT ad.o (by decide));simp only[y]at I;have J:=Z_ I;clear I;have HF:Hd (ZR ts=false):=Z_ (by rw[HM.o,Oa y];rfl);clear y;go_wp2;refine Zh (by kernel_rfl) (by kernel_rfl) ?_
     repeat (go_big_quiet_step (first|(go_at_call 36;exact uL (J.o _ (XS (H4.o.ext (z.o.trans (Later.h _)) hS)) (ZM hS (z.o.trans (Later.h _)))))))
     refine wpQuiet_nil ?_;intro W U;have HW:=Z_ (z.o.trans U);clear U;go_wp2
     all_goals
      go_ret;exact⟨by rw[HF.o];rfl,HW.o⟩
    ·have aB:(ac == 0)=false:=by rw[beq_eq_false_iff_ne];exact ae
     have ag:-1<=ac/\ac<=1:=by rw[<-y];unfold Zx;rcases Uu (Z6 ⟨ng,D⟩) 0 with h|h|h<;>omega
     obtain⟨ai,ar⟩:=ag
     cases hi:YK ⟨ng,D⟩ with
     |false=>
      have I:=λ(W:World) (h:IntV S W (.agg #[.bool ng,.slice am D.length Z]) ⟨ng,D⟩) y=>X5 (S:=S) _ _ W h y (zT ad.o (by decide));simp only[y]at I;have J:=Z_ I;clear I;have O:=λ(W:World) (h:IntV S W (.agg #[.bool ng,.slice am D.length Z]) ⟨ng,D⟩) y=>Vy (S:=S) _ _ W h y;simp only[hi]at O;have K:=Z_ O;clear O;have HF:Hd (ZR ts=false):=Z_ (by rw[HM.o,Lw hi];rfl);clear y;clear hi;go_wp2;refine Zh (by kernel_rfl) (by kernel_rfl) ?_
      repeat (go_big_quiet_step (first|(go_at_call 36;exact uL (J.o _ (XS (H4.o.ext (z.o.trans (Later.h _)) hS)) (ZM hS (z.o.trans (Later.h _)))))|(go_at_call 53;exact uL (K.o _ (XS (H4.o.ext (z.o.trans (Later.h _)) hS)) (ZM hS (z.o.trans (Later.h _)))))))
      refine wpQuiet_nil ?_;intro W U;have HW:=Z_ (z.o.trans U);clear U;go_wp2
      all_goals
       go_ret;exact⟨by rw[HF.o];rfl,HW.o⟩
     |true=>
      cases hq:Z3 m with
      |false=>
       have I:=λ(W:World) (h:IntV S W (.agg #[.bool ng,.slice am D.length Z]) ⟨ng,D⟩) y=>X5 (S:=S) _ _ W h y (zT ad.o (by decide));simp only[y]at I;have J:=Z_ I;clear I;have O:=λ(W:World) (h:IntV S W (.agg #[.bool ng,.slice am D.length Z]) ⟨ng,D⟩) y=>Vy (S:=S) _ _ W h y;simp only[hi]at O;have K:=Z_ O;clear O;have CQ:=λ(W:World) (h:Pows S W (.slice ao m.length co) m) y=>XG (S:=S) _ _ W h y;simp only[hq]at CQ;have aa:=Z_ CQ;clear CQ;have HF:Hd (ZR ts=false):=Z_ (by rw[HM.o,NF hq];rfl);clear y;clear hi;clear hq;go_wp2;refine Zh (by kernel_rfl) (by kernel_rfl) ?_
       repeat (go_big_quiet_step (first|(go_at_call 36;exact uL (J.o _ (XS (H4.o.ext (z.o.trans (Later.h _)) hS)) (ZM hS (z.o.trans (Later.h _)))))|(go_at_call 53;exact uL (K.o _ (XS (H4.o.ext (z.o.trans (Later.h _)) hS)) (ZM hS (z.o.trans (Later.h _)))))|(go_at_call 54;exact uL (aa.o _ (H5.o.ext (z.o.trans (Later.h _)) hS) (ZM hS (z.o.trans (Later.h _)))))))
       refine wpQuiet_nil ?_;intro W U;have HW:=Z_ (z.o.trans U);clear U;go_wp2
       all_goals
        go_ret;exact⟨by rw[HF.o];rfl,HW.o⟩
      |true=>
       obtain⟨od,ho⟩:∃s,XF u.m m=s:=⟨_,rfl⟩
       have aC:-1<=od/\od<=1:=by rw[<-ho];exact QG _ _
       obtain⟨hor1,hor2⟩:=aC
       by_cases ax:od<=0
       ·have az:decide (od<=0)=true:=by simpa using ax
        have I:=λ(W:World) (h:IntV S W (.agg #[.bool ng,.slice am D.length Z]) ⟨ng,D⟩) y=>X5 (S:=S) _ _ W h y (zT ad.o (by decide));simp only[y]at I;have J:=Z_ I;clear I;have O:=λ(W:World) (h:IntV S W (.agg #[.bool ng,.slice am D.length Z]) ⟨ng,D⟩) y=>Vy (S:=S) _ _ W h y;simp only[hi]at O;have K:=Z_ O;clear O;have CQ:=λ(W:World) (h:Pows S W (.slice ao m.length co) m) y=>XG (S:=S) _ _ W h y;simp only[hq]at CQ;have aa:=Z_ CQ;clear CQ;have CO:=λ(W:World) (h1:Pows S W (.slice ap u.m.length cp) u.m) (h2:Pows S W (.slice ao m.length co) m) y=>Se (S:=S) _ _ _ _ W h1 h2 y;simp only[ho]at CO;have af:=Z_ CO;clear CO;have HF:Hd (ZR ts=false):=Z_ (by rw[HM.o,av.o];simp only;rw[ho,decide_eq_false (by omega)];simp);clear y;clear hi;clear hq;clear ho;go_wp2;refine Zh (by kernel_rfl) (by kernel_rfl) ?_
        repeat (go_big_quiet_step (first|(go_at_call 36;exact uL (J.o _ (XS (H4.o.ext (z.o.trans (Later.h _)) hS)) (ZM hS (z.o.trans (Later.h _)))))|(go_at_call 53;exact uL (K.o _ (XS (H4.o.ext (z.o.trans (Later.h _)) hS)) (ZM hS (z.o.trans (Later.h _)))))|(go_at_call 54;exact uL (aa.o _ (H5.o.ext (z.o.trans (Later.h _)) hS) (ZM hS (z.o.trans (Later.h _)))))|(go_at_call 55;exact uL (af.o _ (aq.o.ext (z.o.trans (Later.h _)) hS) (H5.o.ext (z.o.trans (Later.h _)) hS) (ZM hS (z.o.trans (Later.h _)))))))
        refine wpQuiet_nil ?_;intro W U;have HW:=Z_ (z.o.trans U);clear U;go_wp2
        all_goals
         go_ret;exact⟨by rw[HF.o];rfl,HW.o⟩
       ·have az:decide (od<=0)=false:=by simpa using ax
        have I:=λ(W:World) (h:IntV S W (.agg #[.bool ng,.slice am D.length Z]) ⟨ng,D⟩) y=>X5 (S:=S) _ _ W h y (zT ad.o (by decide));simp only[y]at I;have J:=Z_ I;clear I;have O:=λ(W:World) (h:IntV S W (.agg #[.bool ng,.slice am D.length Z]) ⟨ng,D⟩) y=>Vy (S:=S) _ _ W h y;simp only[hi]at O;have K:=Z_ O;clear O;have CQ:=λ(W:World) (h:Pows S W (.slice ao m.length co) m) y=>XG (S:=S) _ _ W h y;simp only[hq]at CQ;have aa:=Z_ CQ;clear CQ;have CO:=λ(W:World) (h1:Pows S W (.slice ap u.m.length cp) u.m) (h2:Pows S W (.slice ao m.length co) m) y=>Se (S:=S) _ _ _ _ W h1 h2 y;simp only[ho]at CO;have af:=Z_ CO;clear CO;have HF:Hd (ZR ts=z5r (befT ts (k+1+1)) (ts.drop (k+1+1))):=Z_ (by rw[HM.o,av.o,On (by rw[y];exact ae) hi hq];simp only;rw[ho,decide_eq_true (by omega)];simp);clear y;clear hi;clear hq;clear ho;go_wp2;refine Zh (by kernel_rfl) (by kernel_rfl) ?_
        repeat (go_big_quiet_step (first|(go_at_call 36;exact uL (J.o _ (XS (H4.o.ext (z.o.trans (Later.h _)) hS)) (ZM hS (z.o.trans (Later.h _)))))|(go_at_call 53;exact uL (K.o _ (XS (H4.o.ext (z.o.trans (Later.h _)) hS)) (ZM hS (z.o.trans (Later.h _)))))|(go_at_call 54;exact uL (aa.o _ (H5.o.ext (z.o.trans (Later.h _)) hS) (ZM hS (z.o.trans (Later.h _)))))|(go_at_call 55;exact uL (af.o _ (aq.o.ext (z.o.trans (Later.h _)) hS) (H5.o.ext (z.o.trans (Later.h _)) hS) (ZM hS (z.o.trans (Later.h _)))))))
        refine wpQuiet_nil ?_;intro W U;have HW:=Z_ (z.o.trans U);clear U;go_wp2
        go_roundw
        case rel=>exact⟨_,by omega,by go_num,HW.o,HF.o⟩
        case measure=>simp only[intOf];omega
  ·obtain rfl:k=ts.length:=by omega
   have HX:=Z_ hx;have HF:Hd (ZR ts=true):=Z_ (by rw[hm,xN];rfl);clear hx hm;go_wp2
   all_goals
    go_ret;exact⟨by rw[HF.o];rfl,HX.o⟩
end
section
open Go.RowKit
section
variable {P:Program}
def Wq(w:World)(A:Option Addr)(m size:Nat)(news:List Value):Prop :=
 news.length=m*size/\(∀u∈news,u.oneCell'=true)/\(0<m->∃ad,A=some ad/\∀j u,news[j]? = some u->w.cell? (ad.add j)=some u)
theorem KP(w:World){base:Nat}{t e ty:TypeId}{i:TypeInfo}{size:Nat}(ht:P.underlying t=some (.slice e))(hi:P.info? e=some i)
  {v:Value} {n:Nat} {xs:List Value} (h:w.ownsRow base e size v n xs) (c:Nat):(Builtin.append_ #[t,t] ty #[v,.slice none 0 c]).run P w=.ok v w:=by
 obtain⟨_,⟨rfl,rfl⟩|⟨g,k,row,rfl,_,_,hk,_⟩⟩:=h
 all_goals simp[Builtin.append_,run_underlying ht,sizeOf,typeInfo,Builtin.lenOf,Builtin.firstCells,storeCells, *]
theorem Lb(w:World)(base:Nat)(t ty e:TypeId)(i:TypeInfo)(z:Value)(size bytes:Nat)(ht:P.underlying t=some (.slice e))(hi:P.info? e=some i)(hz:i.zero=some z)
  (hsize:i.size=size) (hby:i.bytes=bytes) (hzs:z.cells.size=size) (hsz:0<size)
  (v:Value) (n:Nat) (xs:List Value) (hown:w.ownsRow base e size v n xs)
  (A:Option Addr) (m c:Nat) (news:List Value) (hsrc:Wq w A m size news) (h63:n+m<=maxLen) (hbytes:(n+m)*bytes<=140737488355328) (hbase:base<=w.heap.size) :
  ∃v' w',(Builtin.append_ #[t,t] ty #[v,.slice A m c]).run P w=.ok v' w'/\w'.ownsRow base e size v' (n+m) (xs++news)/\w.grownBy w' v.ownBlock/\(v'.ownBlock=v.ownBlock∨v'.ownBlock=some w.heap.size):=by
 obtain⟨O,Z,y⟩:=hsrc
 cases A with
 |some ad=>
  obtain⟨v',w',k1,k2,K,_,X⟩:=run_append_own_at (P:=P) w base t ty e i z size bytes ht hi hz hsize hby hzs hsz v n xs hown ad m c news O (λ j u hu=>by
   have J:0<m:=by
    rcases zj m with rfl|D
    ·have:=Zy hu;omega
    ·exact D
   obtain⟨I,e,U⟩:=y J
   cases e
   exact U j u hu) Z h63 hbytes hbase
  exact⟨v',w',k1,k2,K,X⟩
 |none=>
  obtain rfl:m=0:=by
   rcases zj m with D|D
   ·exact D
   ·obtain⟨I,e,_⟩:=y D
    cases e
  obtain rfl:news=[]:=zO.1 (by omega);exact⟨v,w,KP w ht hi hown c,by simpa using hown,⟨rfl,rfl,rfl,zR _,λ _ _ _=>rfl⟩,.inl rfl⟩
theorem Wu(w:World){ops:Array Oper}{rest:List Oper}{o:Oper}{a:Act}{Q:Exit->Act->World->Prop}(hgd:o.guard=none)(s x:Operand)(t:TypeId)
  (ho:o.op=.call { callee:=.builtin .append,args:=#[s,x],argTypes:=#[t,t] })
  (base:Nat) (e:TypeId) (i:TypeInfo) (z:Value) (size bytes:Nat) (ht:P.underlying t=some (.slice e)) (hi:P.info? e=some i) (hz:i.zero=some z)
  (hsize:i.size=size) (hby:i.bytes=bytes) (hzs:z.cells.size=size) (hsz:0<size)
  (v:Value) (n:Nat) (xs:List Value) (hs:a.eval s=v) (hown:w.ownsRow base e size v n xs)
  (A:Option Addr) (m c:Nat) (news:List Value) (hx:a.eval x=.slice A m c) (hsrc:Wq w A m size news)
  (h63:n+m<=maxLen) (hbytes:(n+m)*bytes<=140737488355328) (hbase:base<=w.heap.size)
  (h:∀v' w',w'.ownsRow base e size v' (n+m) (xs++news)->w.grownBy w' v.ownBlock->(v'.ownBlock=v.ownBlock∨v'.ownBlock=some w.heap.size)->wpList P ops Q rest (a.put o.dst v') w'):wpList P ops Q (o :: rest) a w:=by
 obtain⟨v',w',y,I,D,J⟩:=Lb (P:=P) w base t o.type e i z size bytes ht hi hz hsize hby hzs hsz v n xs hown A m c news hsrc h63 hbytes hbase;refine wpList_plain hgd λ K hK=>?_;unfold Oper.wp execOp;simp only[ho,resolve,invoke,builtin,Sem.run_bind,Sem.run_pure,Result.andThen_ok,vA,ya,List.map_nil,hs,hx,y];exact hK _ _ (h v' w' I D J)
theorem XK(W:World){ops:Array Oper}{rest:List Oper}{o:Oper}{a:Act}{Q:Exit->Act->World->Prop}(hgd:o.guard=none)(s x:Operand)(t:TypeId)
  (ho:o.op=.call { callee:=.builtin .append,args:=#[s,x],argTypes:=#[t,t] })
  (base:Nat) (e:TypeId) (z:Value) (size bytes:Nat) (ht:P.underlying t=some (.slice e)) (hinfo:(P.info? e).map (λ i=>(i.zero,i.size,i.bytes))=some (some z,size,bytes)) (hzs:z.cells.size=size) (hsz:0<size)
  (v:Value) (n:Nat) (xs:List Value) (hs:a.eval s=v) (hown:W.ownsRow base e size v n xs)
  (cs:Array Value) (hcs:cs.size=size) (h1:∀u∈cs.toList,u.oneCell'=true) (hx:a.eval x=.slice (some ⟨W.heap.size,0,none⟩) 1 1)
  (hn:n<=1000000000) (hbytes:bytes<=10000) (hbase:base<=W.heap.size)
  (h:∀v' w',w'.ownsRow base e size v' (n+1) (xs++cs.toList)->W.grownBy w' v.ownBlock->(v'.ownBlock=v.ownBlock∨v'.ownBlock=some (W.heap.size+1))->wpList P ops Q rest (a.put o.dst v') w'):wpList P ops Q (o :: rest) a (W.alloc (.cells cs e)):=by
 obtain⟨i,hi,D,I,J⟩:=info_parts hinfo;have y:=World.grownBy_alloc W (.cells cs e) v.ownBlock
 refine Wu _ hgd s x t ho base e i z size bytes ht hi D I J hzs hsz v n xs hs (hown.alloc _) _ 1 1 cs.toList hx ⟨by simpa using hcs,h1,λ _=>⟨_,rfl,λ j u hu=>?_⟩⟩ (by unfold maxLen;omega) ?_ (zT hbase y.size) (λ v' w' k1 k2 k3=>h v' w' k1 ?_ ?_)
 ·rw[show(⟨W.heap.size,0,none⟩:Addr).add j=⟨W.heap.size,j,none⟩ by unfold Addr.add;split<;>simp_all];exact ZJ W cs e rfl (by simpa using hu)
 ·have:(n+1)*bytes<=1000000001*10000:=yR (by omega) hbytes;omega
 ·exact⟨k2.os.trans y.os,k2.tape.trans y.tape,k2.output.trans y.output,zT y.size k2.size,λ k hk hne=>(k2.block k (zU hk y.size) hne).trans (y.block k hk hne)⟩
 ·rw[z00]at k3;exact k3
theorem VA(W:World){ops:Array Oper}{rest:List Oper}{o:Oper}{a:Act}{Q:Exit->Act->World->Prop}(hgd:o.guard=none)(s x:Operand)(t:TypeId)
  (ho:o.op=.call { callee:=.builtin .append,args:=#[s,x],argTypes:=#[t,t] })
  (base:Nat) (e:TypeId) (z:Value) (size bytes:Nat) (ht:P.underlying t=some (.slice e)) (hinfo:(P.info? e).map (λ i=>(i.zero,i.size,i.bytes))=some (some z,size,bytes)) (hzs:z.cells.size=size) (hsz:0<size)
  (v:Value) (n:Nat) (xs:List Value) (hs:a.eval s=v) (hown:W.ownsRow base e size v n xs)
  (cs:Array Value) (hcs:cs.size=size) (h1:∀u∈cs.toList,u.oneCell'=true) (hx:a.eval x=.slice (some ⟨W.heap.size,0,none⟩) 1 1)
  (hn:n<=1000000000000) (hbytes:bytes<=100) (hbase:base<=W.heap.size)
  (h:∀v' w',w'.ownsRow base e size v' (n+1) (xs++cs.toList)->W.grownBy w' v.ownBlock->(v'.ownBlock=v.ownBlock∨v'.ownBlock=some (W.heap.size+1))->wpList P ops Q rest (a.put o.dst v') w'):wpList P ops Q (o :: rest) a (W.alloc (.cells cs e)):=by
 obtain⟨i,hi,D,I,J⟩:=info_parts hinfo;have y:=World.grownBy_alloc W (.cells cs e) v.ownBlock
 refine Wu _ hgd s x t ho base e i z size bytes ht hi D I J hzs hsz v n xs hs (hown.alloc _) _ 1 1 cs.toList hx ⟨by simpa using hcs,h1,λ _=>⟨_,rfl,λ j u hu=>?_⟩⟩ (by unfold maxLen;omega) ?_ (zT hbase y.size) (λ v' w' k1 k2 k3=>h v' w' k1 ?_ ?_)
 ·rw[show(⟨W.heap.size,0,none⟩:Addr).add j=⟨W.heap.size,j,none⟩ by unfold Addr.add;split<;>simp_all];exact ZJ W cs e rfl (by simpa using hu)
 ·have:(n+1)*bytes<=1000000000001*100:=yR (by omega) hbytes;omega
 ·exact⟨k2.os.trans y.os,k2.tape.trans y.tape,k2.output.trans y.output,zT y.size k2.size,λ k hk hne=>(k2.block k (zU hk y.size) hne).trans (y.block k hk hne)⟩
 ·rw[z00]at k3;exact k3
end
theorem z9j(b off j:Nat):(⟨b,off,none⟩:Addr).add j=⟨b,off+j,none⟩:=by
 unfold Addr.add
 split
 ·rename_i h
  subst h;rfl
 ·rfl
theorem AD(m:Z7):∀u∈YC m,u.oneCell'=true:=by
 intro u hu;obtain⟨x,_,hx⟩:=xd.1 hu;simp at hx;rcases hx with rfl|rfl<;>rfl
theorem IS{m:Z7}{j:Nat}{u:Value}(h:(YC m)[j]? = some u):∃k x,m[k]? = some x/\(j=k*2/\u=.int .i64 x.1∨j=k*2+1/\u=.int .i64 x.2):=by
 have I:=Zy h;rw[O4]at I;obtain⟨x,y⟩:=ZN (show j / 2<m.length by omega);obtain⟨D,z⟩:=Qw y;refine⟨j / 2,x,y,?_⟩
 rcases(show j=j / 2*2∨j=j / 2*2+1 by omega) with e|e
 ·rw[<-e]at D;exact .inl ⟨e,Option.some.inj (h.symm.trans D)⟩
 ·rw[<-e]at z;exact .inr ⟨e,Option.some.inj (h.symm.trans z)⟩
theorem Pows.src{S:Nat->Prop}{w:World}{A:Option Addr}{n cap:Nat}{m:Z7}(h:Pows S w (.slice A n cap) m):n=m.length/\Wq w A n 2 (YC m):=by
 obtain⟨b,off,⟨a',y,I,h2,h3,J,h5⟩,z⟩:=h;obtain⟨rfl,rfl,rfl⟩:A=a'/\n=m.length/\cap=y:=by simpa using I
 refine⟨rfl,O4 m,AD m,λ h0=>⟨_,J h0,λ j u hu=>?_⟩⟩
 obtain⟨k,x,D,⟨rfl,rfl⟩|⟨rfl,rfl⟩⟩:=IS hu
 ·rw[z9j];exact(z k x D).2.1
 ·rw[z9j];exact(z k x D).2.2
theorem Tryz.infoPower:(Tryz.prog.info? 56).map (λ i=>(i.zero,i.size,i.bytes))=some (some (.agg #[.int .i64 0,.int .i64 0]),2,16):=by kernel_rfl
abbrev uu:=@Tryz.infoPower
theorem Pows.of_none{S:Nat->Prop}{w:World}{n cap:Nat}{m:Z7}(h:Pows S w (.slice Option.none n cap) m):m=[]:=by
 obtain⟨b,off,⟨a',y,D,h2,h3,I,h5⟩,hc⟩:=h;obtain⟨rfl,rfl,rfl⟩:Option.none=a'/\n=m.length/\cap=y:=by simpa using D
 rcases zj m.length with z|z
 ·exact zO.1 z
 ·cases I z
theorem Tq{S:Nat->Prop}(v:Value)(m:Z7)(w:World)(h:Pows S w v m)(hS:∀k,S k->k<w.heap.size)(hr:m.length<=1000000) :
  Calls Tryz.prog 106 #[v] w λ e w'=>∃v',e=.returned v'/\Pows (New w w') w' v' m/\Ext w w':=by
 obtain⟨i0,hi,I,z,D⟩:=info_parts uu;have hb:=h.inBounds;have H:=Z_ h;have HB:=Z_ hb;obtain⟨A,c,rfl⟩:=h.form;clear h hb;have hnil:=λ(w:World)=>Lib.run_eql_slice_nil (P:=Tryz.prog) w 52 56 A m.length c 0 0 Tryz.underlying52
 cases A with
 |none=>
  have HM:=Z_ H.o.of_none
  go_enter Tryz.func106,Tryz.ntmps106
  go_wp2
  all_goals
   go_ret;exact⟨_,rfl,by rw[HM.o];exact uB _ _ _,uP _⟩
 |some ad=>
  have HS:=Z_ ((H.o.to (uM (uO (uP w) (.cells #[] 56)) hS) (λ _ h=>h)).src.2);have Z:=Z_ (World.ownsRow_made (base:=w.heap.size) (e:=56) (size:=2) w #[] 0 (zR _) (by unfold maxLen;omega) (by simp));have K:=Z_ hr
  go_enter Tryz.func106,Tryz.ntmps106
  go_wp2_with (at_builtin;refine Wu _ rfl (.tmp 5) (.tmp 6) 52 rfl w.heap.size 56 i0 (.agg #[.int .i64 0,.int .i64 0]) 2 16 Tryz.underlying52 hi I z D rfl (by decide) (.slice (some ⟨w.heap.size,0,none⟩) 0 0) 0 [] rfl Z.o (some ad) m.length c (YC m) rfl HS.o (by have:=K.o;unfold maxLen;omega) (by have:=K.o;omega) (by simp) ?_;intro v1 w1 y J _;have O:=Z_ y;have X:=Z_ J;clear y J);go_ret
  have U:Ext w w1:=by
   refine YU (uO (uP w) _) X.o (λ k hk=>?_);have e:w.heap.size=k:=by simpa[Value.ownBlock]using hk
   omega
  refine⟨v1,rfl,?_,U⟩;refine Ut (e:=56) ?_ HB.o;simpa using O.o
end
section
open Go.RowKit
def Digs(S:Nat->Prop)(w:World)(v:Value)(zs:List Nat):Prop :=
 ∃b off,z3r S v zs.length b off/\∀j z,zs[j]? = some z->z<10/\w.cell? ⟨b,off+j,none⟩=some (.int .i64 (z:Nat))
section
variable {S S':Nat->Prop} {w w':World} {v:Value}
theorem Digs.form{zs:List Nat}(h:Digs S w v zs):∃a cap,v=.slice a zs.length cap:=by
 obtain⟨b,off,⟨a,cap,h1,_⟩,_⟩:=h;exact⟨a,cap,h1⟩
theorem Digs.to{zs:List Nat}(h:Digs S w v zs)(hk:Kept S w w')(hS:∀k,S k->S' k):Digs S' w' v zs:=by
 obtain⟨b,off,hs,hc⟩:=h;exact⟨b,off,hs.mono hS,λ j z hz=>⟨(hc j z hz).1,hk.cell (hs.in (Zy hz)) (hc j z hz).2⟩⟩
abbrev ug:=@Digs.to
theorem Digs.ext{zs:List Nat}(h:Digs S w v zs)(hx:Ext w w')(hS:∀k,S k->k<w.heap.size):Digs S w' v zs:=h.to (uM hx hS) (λ _ h=>h)
theorem Digs.len_le{zs:List Nat}(h:Digs S w v zs):zs.length<=9223372036854775807:=by
 obtain⟨b,off,⟨a,cap,h1,h2,h3,_⟩,_⟩:=h;unfold maxLen at h3;omega
theorem Digs.lt{zs:List Nat}(h:Digs S w v zs):∀z∈zs,z<10:=by
 obtain⟨b,off,hs,hc⟩:=h;intro z hz;obtain⟨j,hj⟩:=yp hz;exact(hc j z hj).1
theorem Digs.cellAt{zs:List Nat}{a:Option Addr}{n cap k z:Nat}(h:Digs S w (.slice a n cap) zs)(hz:zs[k]? = some z) :
  ∃b off,a=some ⟨b,off,none⟩/\n=zs.length/\n<=cap/\cap<=9223372036854775807/\S b/\z<10/\w.cell? ⟨b,off+k,none⟩=some (.int .i64 (z:Nat)):=by
 obtain⟨b,off,⟨a',y,O,K,I,X,U⟩,J⟩:=h;obtain⟨rfl,rfl,rfl⟩:a=a'/\n=zs.length/\cap=y:=by simpa using O
 have D:0<zs.length:=by have:=Zy hz;omega
 exact⟨b,off,X D,rfl,K,I,U D,J k z hz⟩
theorem Digs.take{zs:List Nat}{a:Option Addr}{n cap k:Nat}(h:Digs S w (.slice a n cap) zs)(hk:k<=n):Digs S w (.slice a k cap) (zs.take k):=by
 obtain⟨b,off,⟨a',y,K,h2,I,U,O⟩,J⟩:=h;obtain⟨rfl,rfl,rfl⟩:a=a'/\n=zs.length/\cap=y:=by simpa using K
 have D:(zs.take k).length=k:=by rw[zD];omega
 refine⟨b,off,⟨a,cap,by rw[D],by omega,I,λ h=>U (by omega),λ h=>O (by omega)⟩,λ j z hz=>J j z ?_⟩;rw[w_]at hz
 split at hz
 ·exact hz
 ·simp at hz
theorem Digs.nilv(S:Nat->Prop)(w:World)(a:Option Addr)(cap:Nat)(h:cap<=9223372036854775807):Digs S w (.slice a 0 cap) [] :=
 ⟨0,0,⟨a,cap,rfl,zL _,by unfold maxLen;omega,λ h=>absurd h (yQ _),λ h=>absurd h (yQ _)⟩,λ j x hx=>by simp at hx⟩
def dval(z:Nat):Value:=.int .i64 (z:Nat)
theorem QS{base:Nat}{e:TypeId}{ds:List Nat}(h:w.ownsRow base e 1 v ds.length (ds.map dval))(hl:∀z∈ds,z<10):Digs (λ k=>base<=k/\k<w.heap.size) w v ds:=by
 have y:=h.lt
 rcases h.2 with ⟨rfl,D⟩|⟨g,cap,cur,rfl,hg,hh,J,I,h3,h4⟩
 ·obtain rfl:ds=[]:=zO.1 D;exact Digs.nilv _ _ _ _ (by omega)
 ·refine⟨g,0,⟨_,cap,rfl,J,I,λ _=>rfl,λ _=>y g rfl⟩,λ j z hz=>⟨hl z (zP hz),?_⟩⟩;rw[h.cellAt (0+j) (by have:=Zy hz;omega),zr];simp[hz,dval]
theorem V8{base:Nat}{e:TypeId}{o:List Nat}{u:Value}{f:Nat->Value}(h:w.ownsRow base e 1 v (o.length+1) (o.map f ++ [u])){z:Nat}(hu:u=f z):w.ownsRow base e 1 v (o ++ [z]).length ((o ++ [z]).map f):=by
 subst hu;simpa using h
theorem Wo{u:Value}(h:u.oneCell'=true):∀x∈(#[u]:Array Value).toList,x.oneCell'=true:=by
 intro x hx;obtain rfl:x=u:=by simpa using hx
 exact h
end
theorem Y5:2<=10:=by decide
theorem Tryz.infoInt:(Tryz.prog.info? 3).map (λ i=>(i.zero,i.size,i.bytes))=some (some (.int .i64 0),1,8):=by kernel_rfl
abbrev uD:=@Tryz.infoInt
theorem Sc{S:Nat->Prop}(v:Value)(zs:List Nat)(w:World)(h:Digs S w v zs) :
  Calls Tryz.prog 86 #[v] w λ e w'=>∃v',e=.returned v'/\Digs S w v' (Z4 10 (val 10 zs))/\w=w':=by
 have hl:=h.len_le;have H:=Z_ h;obtain⟨a,cap,rfl⟩:=h.form;clear h
 go_enter Tryz.func86,Tryz.ntmps86
 go_wp2
 go_loop [0] (λ x=>∃k:Nat,k<=zs.length/\x=.slice a k cap/\z32 zs k=z32 zs zs.length) (λ x=>Yr x)
 case atStart=>exact⟨zs.length,zR _,rfl,rfl⟩
 case round=>
  obtain⟨k,Z,rfl,D⟩:=hrel
  cases k with
  |zero=>
   have I:=Z_ D;clear D;go_wp2
   all_goals
    go_ret;refine⟨_,rfl,?_,rfl⟩;have K:=H.o.take (zL _);rw[<-Uw Y5 zs H.o.lt,<-yW (l:=zs),<-SZ zs _ (zR _),<-I.o];exact K
  |succ k=>
   obtain⟨z,O⟩:=ZN (show k<zs.length by omega);obtain⟨b,off,rfl,-,hcap,hmax,-,hzb,hcell⟩:=H.o.cellAt O;have I:=Z_ D;have U:=Z_ O;clear D O
   by_cases y:z=0
   ·have hb:((z:Int) == 0)=true:=by simpa using y
    have J:=Z_ y;clear y;go_wp2
    go_round
    case rel=>exact⟨k,by omega,rfl,by rw[<-I.o,z32,U.o,J.o,if_pos rfl]⟩
    case measure=>simp only[Yr];omega
   ·have hb:((z:Int) == 0)=false:=by simpa using y
    have J:=Z_ y;clear y;go_wp2
    all_goals
     go_ret;refine⟨_,rfl,?_,rfl⟩;have K:=H.o.take Z;have X:z32 zs (k+1)=k+1:=by rw[z32,U.o,if_neg (by simpa using J.o)]
     rw[<-Uw Y5 zs H.o.lt,<-yW (l:=zs),<-SZ zs _ (zR _),<-I.o,X];exact K
end
end Go.Proofs.YtlbohjnfkhemlaaGreat
