/- Decimal digits out of limbs and back. -/
import Derived.Deep.WholeRow
import Derived.Deep.MidRow
import Derived.Deep.OwnRows
import Derived.ChangeKeysEq
import Derived.StillTailTactics
import Derived.StillTail
import Derived.OrdersHeld
import Derived.Test.YtlbohjnfkhemlaaGreatTp2
set_option maxRecDepth 100000
set_option maxHeartbeats 16000000
namespace Go.Proofs.YtlbohjnfkhemlaaGreat
section
open Go.RowKit
theorem BW{V k:Nat}(h:V<10^k):(Z4 Z9 V).length<=k:=YZ ZU _ _ (zU h (Nat.pow_le_pow_left (by decide) k))
theorem MT{B N m:Nat}{o:List Nat}(hB:2<=B)(h:Z4 B N=o++Z4 B m)(hm:0<m):Z4 B N=(o ++ [m % B])++Z4 B (m / B):=by
 rw[h,VB hB hm];simp
theorem BP(n:Nat)(w:World)(hn:n<18446744073709551616) :
  Calls Tryz.prog 43 #[.int .u64 (n:Nat)] w λ e w'=>∃v',e=.returned v'/\Digs (New w w') w' v' (Z4 10 n)/\Ext w w':=by
 have y:(Z4 10 n).length<=20:=YZ Y5 _ _ (zU hn (by decide));have HL:=Z_ y;clear y
 go_enter Tryz.func43,Tryz.ntmps43
 go_wp2
 go_loopw [0,3] (λ i x wr=>∃(m:Nat) (o:List Nat),i=.int .u64 m/\m<18446744073709551616/\Hd (Z4 10 n=o++Z4 10 m)/\Hd (wr.ownsRow w.heap.size 3 1 x o.length (o.map dval))/\Ext w wr) (λ i _ _=>(intOf i).toNat)
 case atStart=>exact⟨n,[],rfl,hn,Z_ rfl,Z_ (World.ownsRow_nil _ _ _ _),uP _⟩
 case round=>
  obtain⟨m,o,rfl,hm,U,J,X⟩:=hrel;have O:=Z_ X;clear X
  by_cases h0:0<m
  ·have I:o.length<=1000000000:=by
    have:=HL.o;rw[U.o,zI]at this;omega
   go_wp2_with (at_builtin;refine XK _ rfl (.tmp 6) (.tmp 10) 93 rfl w.heap.size 3 (.int .i64 0) 1 8 Tryz.underlying93 uD rfl (by decide) _ o.length (o.map dval) rfl J.o _ rfl (Wo rfl) rfl I (by decide) O.o.size ?_;intro v1 w1 D Z _;have K:=Z_ D;have HG:=Z_ Z;clear D Z)
   go_roundw
   case rel=>
    refine⟨m / 10,o ++ [m % 10],by go_num,by omega,Z_ (MT Y5 U.o h0),Z_ (V8 K.o (by unfold dval;congr 1)),YU O.o HG.o ?_⟩;intro q hq;exact(J.o.lt q hq).1
   case measure=>simp only[intOf];omega
  ·obtain rfl:m=0:=by omega
   have e:Z4 10 n=o:=by rw[U.o,z3v,yj]
   have E:=Z_ e;clear e;go_wp2
   all_goals
    go_ret;refine⟨_,rfl,?_,O.o⟩;rw[E.o];exact QS J.o (λ z hz=>XX Y5 n z (by rw[E.o];exact hz))
def rowD(o:List Nat):Nat->Value:=λ j=>dval (dg o j)
theorem Rn{w:World}{T:TypeId}{n g:Nat}{o:List Nat}(h:w.rowIs g T n (rowD o))(k z:Nat)(hk:k<o.length):(w.setCell ⟨g,k,none⟩ (dval z)).rowIs g T n (rowD (o.set k z)):=by
 refine(h.set k (dval z)).congr (λ i hi=>?_);unfold rowD dg;rw[xV]
 by_cases e:i=k
 ·subst e;simp[hk]
 ·rw[if_neg e,if_neg (λ h=>e h.symm)]
theorem Ot(w:World)(n:Nat)(T:TypeId):(w.alloc (.cells (madeCells #[.int .i64 0] n) T)).rowIs w.heap.size T n (rowD (List.replicate n 0)) :=
 (World.rowIs_made w (.int .i64 0) n T).congr (λ i hi=>by simp[rowD,dg,dval,hi])
theorem Digs.of_row{w:World}{T:TypeId}{g cap:Nat}{o:List Nat}(h:w.rowIs g T cap (rowD o))(ho:o.length=cap)(hl:∀z∈o,z<10)(hc:cap<=9223372036854775807):Digs (λ k=>k=g) w (.slice (some ⟨g,0,none⟩) cap cap) o:=by
 subst ho;refine⟨g,0,⟨_,o.length,rfl,zR _,by unfold maxLen;omega,λ _=>rfl,λ _=>rfl⟩,λ j z hz=>⟨hl z (zP hz),?_⟩⟩;have y:=Zy hz;rw[zr,h.cell (i:=j) y];simp[rowD,dval,dg,hz]
theorem drop_set{o:List Nat}{q z:Nat}(h:q<o.length):(o.set q z).drop q=z :: o.drop (q+1):=by
 rw[yr (by simpa using h)];simp[List.drop_set]
theorem EZ{ds o:List Nat}{q x n r:Nat}(hx:ds[q]? = some x)(hq:q<o.length)(h:val 10 (ds.drop (q+1))=val 10 (o.drop (q+1))*n+r) :
  val 10 (ds.drop q)=val 10 ((o.set q ((r*10+x) / n)).drop q)*n+(r*10+x) % n:=by
 rw[UB hx,drop_set hq,val,h];have:=He (V:=val 10 (o.drop (q+1))*n+r) (d:=x) (n:=n) (q:=val 10 (o.drop (q+1))) (r:=r) rfl;rw[zq r 10,xY x,this,xY (10*val 10 (List.drop (q+1) o))]
theorem Jk{S:Nat->Prop}(v:Value)(zs:List Nat)(n:Int)(w:World)(h:Digs S w v zs)(_hS:∀k,S k->k<w.heap.size)(hr:zs.length<=10000000)(hn0:0<n)(hn:n<=65536) :
  Calls Tryz.prog 87 #[v,.int .i64 n] w λ e w'=>∃v',e=.returned (.tuple #[v',.int .i64 ((val 10 zs % n.toNat:Nat):Int)])/\Digs (New w w') w' v' (Z4 10 (val 10 zs / n.toNat))/\Ext w w':=by
 obtain⟨n,rfl⟩:=Int.eq_ofNat_of_zero_le (Int.le_of_lt hn0);simp only[xU];have U:0<n:=by omega
 have H:=Z_ h;have HLT:=Z_ h.lt;obtain⟨a,cap,rfl⟩:=h.form;clear h hn0;have hmk:=run_make_row' (P:=Tryz.prog) 93 3 (.int .i64 0) 8 Tryz.underlying93 uD rfl .i64 .i64 zs.length (by omega) (by omega) w;have hz:w.heap.size<(w.alloc (.cells (madeCells #[.int .i64 0] zs.length) 3)).heap.size:=by simp
 have HR:=Z_ (Ot w zs.length 3);have HE:=Z_ (uO (uP w) (.cells (madeCells #[.int .i64 0] zs.length) 3))
 go_enter Tryz.func87,Tryz.ntmps87
 go_wp2
 go_loopw [7,8] (λ rr i wr=>∃(k r:Nat) (o:List Nat),k<=zs.length/\i=.int .i64 ((k:Int)-1)/\rr=.int .i64 r/\r<n/\Hd (o.length=zs.length)/\Hd (∀z∈o,z<10)/\wr.rowIs w.heap.size 3 zs.length (rowD o)/\Ext w wr /\
  Hd (val 10 (zs.drop k)=val 10 (o.drop k)*n+r)) (λ _ i _=>(intOf i+1).toNat)
 case atStart=>exact⟨zs.length,0,List.replicate zs.length 0,zR _,rfl,rfl,U,Z_ (by simp),Z_ (by simp),HR.o,HE.o,Z_ (by rw[xN,zt (by simp)];simp[val])⟩
 case round=>
  obtain⟨k,r,o,hk,rfl,rfl,aa,K,HO,y,hx,HV⟩:=hrel
  cases k with
  |succ q=>
   have al:((q+1:Nat):Int)-1=(q:Int):=by omega
   have O:q<zs.length:=by omega
   obtain⟨x,X⟩:=ZN O;obtain⟨b,off,rfl,-,hn1,hm1,hSb,hxb,ad⟩:=H.o.cellAt X;have g1:=hx.cell ad;have hcs:=y.cell (i:=q) O;have hfs:=y.frozen q;have ag:=Z_ X;have D:=Z_ y;have HX:=Z_ hx;obtain⟨p,hp⟩:∃p:Nat,p=r*10+x:=⟨_,rfl⟩
   have hmul:(r:Int)*10+(x:Int)=(p:Int):=by rw[hp];omega
   have ap:p<n*10:=by rw[hp];omega
   obtain⟨Z,J⟩:∃d,d=p / n:=⟨_,rfl⟩
   obtain⟨dm,I⟩:∃d,d=p % n:=⟨_,rfl⟩
   have ai:Z<10:=by rw[J];exact xu ap
   have ae:dm<n:=by rw[I];exact yS _ U
   have hdv:(p:Int) / (n:Int)=(Z:Int):=by rw[J];simp
   have af:(p:Int) % (n:Int)=(dm:Int):=by rw[I];simp
   have ah:=Z_ J;have aj:=Z_ I;clear J I;have HP:=Z_ hp;clear X ad hx y hp;have hne:¬ n=0:=by omega
   simp only[al];go_wp2
   go_roundw
   case rel=>
    have hs:(wr.setCell ⟨w.heap.size,q,none⟩ (dval Z)).rowIs w.heap.size 3 zs.length (rowD (o.set q Z)):=Rn D.o q Z (by rw[K.o];exact O)
    refine⟨q,dm,o.set q Z,by omega,rfl,congrArg (Value.int .i64) af,ae,Z_ (by simpa using K.o),?_,hs,HX.o.setCell (p:=⟨w.heap.size,q,none⟩) (zR _) _,Z_ ?_⟩
    ·refine Z_ (λ z hz=>?_)
     rcases yq hz with h|h
     ·exact HO.o z h
     ·rw[h];exact ai
    ·rw[ah.o,aj.o,HP.o];exact EZ ag.o (by rw[K.o];exact O) HV.o
   case measure=>simp only[intOf];omega
  |zero=>
   have D:=Z_ y;have HX:=Z_ hx;have hd:=(Digs.of_row y K.o HO.o (by omega))
   have HD:=Z_ hd;have ac:Hd (val 10 zs=val 10 o*n+r):=Z_ (by simpa using HV.o);clear y hx hd;go_wp2_with fail;refine(Sc _ o _ HD.o).mono ?_;rintro e w' ⟨v',rfl,hu,rfl⟩;have HU:=Z_ hu;clear hu;go_wp2
   all_goals
    go_ret2;have e1:val 10 zs / n=val 10 o:=by rw[ac.o,zq,wI U,yb aa];rfl
    have e2:val 10 zs % n=r:=by rw[ac.o,zq,wH,yB aa]
    refine⟨v',?_,?_,HX.o⟩
    ·rw[e2];rfl
    ·rw[e1];refine HU.o.to (uN _ _) (λ k hk=>?_);subst hk;exact⟨zR _,D.o.lt⟩
theorem D_{w:World}{v:Value}{base:Nat}{e:TypeId}{ds:List Nat}(h:w.ownsRow base e 1 v ds.length (ds.map YI))(hl:∀z∈ds,z<Z9):U32s (λ k=>base<=k/\k<w.heap.size) w v ds:=by
 have y:=h.lt
 rcases h.2 with ⟨rfl,D⟩|⟨g,cap,cur,rfl,hg,hh,J,I,h3,h4⟩
 ·obtain rfl:ds=[]:=zO.1 D;exact ul _ _ _ _ (by omega)
 ·refine⟨g,0,⟨_,cap,rfl,J,I,λ _=>rfl,λ _=>y g rfl⟩,λ j z hz=>⟨hl z (zP hz),?_⟩⟩;rw[h.cellAt (0+j) (by have:=Zy hz;omega),zr];simp[hz,YI]
theorem Mm{S:Nat->Prop}(v:Value)(zs:List Nat)(w:World)(h:Digs S w v zs)(hS:∀k,S k->k<w.heap.size)(hr:zs.length<=10000000) :
  Calls Tryz.prog 87 #[v,.int .i64 65536] w λ e w'=>∃v',e=.returned (.tuple #[v',.int .i64 ((val 10 zs % 65536:Nat):Int)])/\Digs (New w w') w' v' (Z4 10 (val 10 zs / 65536))/\Ext w w' :=
 Jk v zs 65536 w h hS hr (by decide) (by decide)
theorem E1{N m:Nat}{o:List Nat}(h:Z4 Z9 N=o++Z4 Z9 m)(hm:0<m):Z4 Z9 N=(o ++ [m / 65536 % 65536*65536+m % 65536])++Z4 Z9 (m / 65536 / 65536):=by
 have e1:m / 65536 % 65536*65536+m % 65536=m % Z9:=by show _=m % 4294967296;omega
 have e2:m / 65536 / 65536=m / Z9:=by show _=m / 4294967296;omega
 rw[e1,e2];exact MT ZU h hm
theorem Hf{m:Nat}(h:0<m):(Z4 10 (m / 65536 / 65536)).length<(Z4 10 m).length:=by
 rw[VB Y5 h,zM];have:(Z4 10 (m / 65536 / 65536)).length<=(Z4 10 (m / 10)).length:=YZ Y5 _ _ (zh (by omega) (Xq Y5 _));omega
theorem Mv{S:Nat->Prop}(v:Value)(n:Nat)(w:World)(h:Digs S w v (Z4 10 n))(hS:∀k,S k->k<w.heap.size)(hr:(Z4 10 n).length<=10000000) :
  Calls Tryz.prog 46 #[v] w λ e w'=>∃v',e=.returned v'/\U32s (New w w') w' v' (Z4 Z9 n)/\Ext w w':=by
 have af:Hd (n<10^(Z4 10 n).length):=Z_ (Xq Y5 n);have ai:Hd ((Z4 Z9 n).length<=10000000):=Z_ (zT (BW af.o) hr);have H:=Z_ h;have HR:=Z_ hr;clear h hr;obtain⟨a,cap,rfl⟩:=H.o.form
 go_enter Tryz.func46,Tryz.ntmps46
 go_wp2
 go_loopw [0,3] (λ x y wr=>∃(m:Nat) (o:List Nat),Hd (m<=n)/\Hd (Z4 Z9 n=o++Z4 Z9 m)/\Hd (wr.ownsRow w.heap.size 75 1 y o.length (o.map YI))/\Ext w wr/\Hd (Digs (λ k=>k<wr.heap.size/\some k≠y.ownBlock) wr x (Z4 10 m))) (λ x _ _=>Yr x)
 case atStart=>exact⟨n,[],Z_ (zR _),Z_ rfl,Z_ (World.ownsRow_nil _ _ _ _),uP _,Z_ (H.o.to (uN _ _) (λ k hk=>⟨hS k hk,by simp[Value.ownBlock]⟩))⟩
 case round=>
  obtain⟨m,o,aa,HV,HW,hx,HD⟩:=hrel;obtain⟨a1,c1,rfl⟩:=HD.o.form;have HX:=Z_ hx;clear hx;have ac:(Z4 10 m).length<=10000000:=zT (YZ Y5 _ _ (zh aa.o af.o)) HR.o
  by_cases h0:0<m
  ·have hp:0<(Z4 10 m).length:=by
    rw[yF,Ne,WG Y5];omega
   have ar:o.length<=1000000000:=by
    have:=ai.o;rw[HV.o,zI]at this;omega
   have K:=Mm _ _ wr HD.o (λ k hk=>hk.1) ac;rw[ZB Y5]at K;obtain⟨lo,ae⟩:∃d,d=m % 65536:=⟨_,rfl⟩
   obtain⟨hi,aj⟩:∃d,d=m / 65536 % 65536:=⟨_,rfl⟩
   have hlo1:lo<65536:=by omega
   have hhi1:hi<65536:=by omega
   have ax:=Z_ ae;have ap:=Z_ aj;rw[<-ae]at K;have aB:=Z_ K;clear ae aj;have HLM:=Z_ ac;have ah:=Z_ h0;clear K ac h0;go_wp2_with fail;refine aB.o.mono ?_;rintro e w1 ⟨v1,rfl,J,aq⟩;have HD1:=Z_ J;obtain⟨a2,c2,rfl⟩:=J.form;have U:=Mm _ _ w1 J uK (zT (YZ Y5 _ _ (zh (yt _ _) (zh aa.o af.o))) HR.o);rw[ZB Y5,<-ap.o]at U;have az:=Z_ U;have ad:=Z_ aq;clear J aq U;go_wp2_with fail;refine az.o.mono ?_;rintro e w2 ⟨v2,rfl,X,Z⟩;have aA:=Z_ X;have D:=Z_ (ad.o.trans Z);have HX12:=Z_ Z;obtain⟨a3,c3,rfl⟩:=X.form;clear X Z;have I:w2.ownsRow w.heap.size 75 1 _ o.length (o.map YI):=HW.o.kept (row:=none) ⟨D.o.os,D.o.tape,D.o.output,D.o.size,λ k hk _=>D.o.block k hk⟩ (by cases hv:Value.ownBlock _<;>simp);have ag:=Z_ I;clear I;go_wp2_with (at_builtin;refine XK _ rfl (.tmp 19) (.tmp 26) 26 rfl w.heap.size 75 (.int .u32 0) 1 4 Tryz.underlying26 uC rfl (by decide) _ o.length (o.map YI) rfl ag.o _ rfl (Wo rfl) rfl ar (by decide) (zT HX.o.size D.o.size) ?_;intro v3 w3 O hg al;have au:=Z_ O;have HG:=Z_ hg;have av:=Z_ al;clear O hg al)
   go_roundw
   case rel=>
    have ay:Ext w w3:=YU (HX.o.trans D.o) HG.o (λ q hq=>(ag.o.lt q hq).1)
    refine⟨m / 65536 / 65536,o ++ [hi*65536+lo],Z_ ?_,Z_ ?_,Z_ (V8 au.o (by unfold YI;congr 1)),ay,Z_ ?_⟩
    ·exact zT (yt _ _) (zT (yt _ _) aa.o)
    ·rw[ap.o,ax.o];exact E1 HV.o ah.o
    ·refine aA.o.to (uJ HG.o (λ k hk=>⟨hk.2,λ e=>?_⟩)) (λ k hk=>⟨zU hk.2 HG.o.size,λ e=>?_⟩)
     ·have:=(HW.o.lt k e.symm).2;have:=hk.1;have:=ad.o.size;omega
     ·rcases av.o with hb|hb
      ·rw[hb]at e;have:=(HW.o.lt k e.symm).2;have:=hk.1;have:=ad.o.size;omega
      ·rw[hb]at e;have h1:k=w2.heap.size+1:=by simpa using e
       have:=hk.2;omega
   case measure=>
    simp only[Yr];exact Hf ah.o
  ·obtain rfl:m=0:=by omega
   have e:Z4 Z9 n=o:=by rw[HV.o,z3v,yj]
   have E:=Z_ e;have hz:(Z4 10 0).length=0:=rfl;clear e;go_wp2
   all_goals
    go_ret;refine⟨_,rfl,?_,HX.o⟩;rw[E.o];exact D_ HW.o (λ z hz=>XX ZU n z (by rw[E.o];exact hz))
end
section
open Go.RowKit
theorem EL{n m:Nat}(h:(Z4 10 n).length<(Z4 10 m).length):ZC n m = -1:=by
 have:=ST Y5 h;unfold ZC;rw[WN];omega
theorem KB{n m:Nat}(h:(Z4 10 m).length<(Z4 10 n).length):ZC n m=1:=by
 have:=ST Y5 h;unfold ZC;rw[Wi];omega
theorem Ob{n m k x y:Nat}(hlen:(Z4 10 n).length=(Z4 10 m).length)(hx:(Z4 10 n)[k]? = some x)(hy:(Z4 10 m)[k]? = some y)(ht:val 10 ((Z4 10 n).drop (k+1))=val 10 ((Z4 10 m).drop (k+1)))(h:x<y):ZC n m = -1:=by
 have h1:=Oh (B:=10) (l:=Z4 10 n) (m:=Z4 10 m) (k:=k) (by decide) (XX Y5 n) (by rw[Zi hx,Zi hy];exact h) (Zy hx) (Zy hy) ht hlen;rw[ZB Y5,ZB Y5]at h1;unfold ZC;rw[WN];omega
theorem Ke{n m k x y:Nat}(hlen:(Z4 10 n).length=(Z4 10 m).length)(hx:(Z4 10 n)[k]? = some x)(hy:(Z4 10 m)[k]? = some y)(ht:val 10 ((Z4 10 n).drop (k+1))=val 10 ((Z4 10 m).drop (k+1)))(h:y<x):ZC n m=1:=by
 have:=Ob hlen.symm hy hx ht.symm h;unfold ZC at *;rw[zfo,this];rfl
theorem NR{S:Nat->Prop}(va vb:Value)(n m:Nat)(w:World)(ha:Digs S w va (Z4 10 n))(hb:Digs S w vb (Z4 10 m))(hS:∀k,S k->k<w.heap.size) :
  Calls Tryz.prog 89 #[va,vb] w λ e w'=>e=.returned (.int .i64 (ZC n m))/\Ext w w':=by
 have HU:=Z_ ha;have HV:=Z_ hb;have ac:=ha.len_le;have ad:=hb.len_le;obtain⟨aa,ca,rfl⟩:=ha.form;obtain⟨ab,cb,rfl⟩:=hb.form;clear ha hb
 rcases(show(Z4 10 n).length<(Z4 10 m).length∨(Z4 10 m).length<(Z4 10 n).length∨(Z4 10 n).length=(Z4 10 m).length by omega) with z|z|D
 ·have I:=Z_ (EL z);have hq:(((Z4 10 n).length:Int) != ((Z4 10 m).length:Int))=true:=by rw[bne_iff_ne];omega
  go_enter Tryz.func89,Tryz.ntmps89
  go_wp2
  all_goals
   go_ret;exact⟨by rw[I.o];rfl,uP _⟩
 ·have I:=Z_ (KB z);have hq:(((Z4 10 n).length:Int) != ((Z4 10 m).length:Int))=true:=by rw[bne_iff_ne];omega
  go_enter Tryz.func89,Tryz.ntmps89
  go_wp2
  all_goals
   go_ret;exact⟨by rw[I.o];rfl,uP _⟩
 ·have HE:=Z_ D;obtain⟨L,hL⟩:∃L,L=(Z4 10 n).length:=⟨_,rfl⟩
  have HL:=Z_ hL;rw[<-D,<-hL]at HV ad⊢;rw[<-hL]at HU ac;clear D hL;have hq:((L:Int) != (L:Int))=false:=by simp
  go_enter Tryz.func89,Tryz.ntmps89
  go_wp2
  go_loopw [5] (λ i wr=>∃k:Nat,k<=L/\i=.int .i64 ((k:Int)-1)/\Ext w wr/\val 10 ((Z4 10 n).drop k)=val 10 ((Z4 10 m).drop k)) (λ i _=>(intOf i+1).toNat)
  case atStart=>exact⟨L,zR _,rfl,uP _,by rw[zt (by have:=HL.o;omega),zt (by have:=HL.o;have:=HE.o;omega)]⟩
  case round=>
   obtain⟨k,hk,rfl,X,ht⟩:=hrel
   cases k with
   |succ q=>
    have ae:((q+1:Nat):Int)-1=(q:Int):=by omega
    have hqn:q<L:=by omega
    obtain⟨x,U⟩:=ZN (show q<(Z4 10 n).length by have:=HL.o;omega);obtain⟨y,K⟩:=ZN (show q<(Z4 10 m).length by have:=HL.o;have:=HE.o;omega);obtain⟨b1,o1,rfl,-,hn1,hm1,-,hxb,hc1⟩:=(HU.o.to (uM X hS) (λ _ h=>h)).cellAt U;obtain⟨b2,o2,rfl,-,hn2,hm2,-,hyb,hc2⟩:=(HV.o.to (uM X hS) (λ _ h=>h)).cellAt K;have Z:=Z_ X;have HT:=Z_ ht;have O:=Z_ U;have J:=Z_ K;clear X ht U K;simp only[ae]
    rcases(show x<y∨y<x∨x=y by omega) with z|z|D
    ·have I:=Z_ (Ob HE.o O.o J.o HT.o z);go_wp2
     go_quiet (fail)
     go_wp2
     all_goals
      go_ret;exact⟨by rw[I.o];rfl,Z.o.drewN _⟩
    ·have I:=Z_ (Ke HE.o O.o J.o HT.o z);go_wp2
     go_quiet (fail)
     go_wp2
     go_quiet (fail)
     go_wp2
     all_goals
      go_ret;exact⟨by rw[I.o];rfl,(Z.o.drewN _).drewN _⟩
    ·subst D;go_wp2
     go_quiet (fail)
     go_wp2
     go_quiet (fail)
     go_wp2
     go_roundw
     case rel=>exact⟨q,by omega,rfl,Z.o.drewN _,by rw[UB O.o,UB J.o,HT.o]⟩
     case measure=>simp only[intOf];omega
   |zero=>
    have Z:=Z_ X
    have I:Hd (ZC n m=0):=by
     have e:n=m:=by simpa[ZB Y5]using ht
     refine Z_ ?_;rw[e];exact Ps _
    clear X ht;go_wp2
    all_goals
     go_ret;exact⟨by rw[I.o];rfl,Z.o⟩
end
section
open Go.RowKit
theorem VI{B:Nat}{o:List Nat}{z:Nat}(h:∀x∈o,x<B)(hz:z<B):∀x∈o ++ [z],x<B:=by
 intro x hx
 rcases zC.1 hx with h1|h1
 ·exact h x h1
 ·rw[zQ.1 h1];exact hz
theorem Dq{B:Nat}{o xs ys:List Nat}{k:Nat}(h:val B o+B^k*0=val B (xs.take k)+val B (ys.take k))(hx:xs.length<=k)(hy:ys.length<=k):val B o=val B xs+val B ys:=by
 rw[zN hx,zN hy]at h;simpa using h
theorem Ab{S:Nat->Prop}(va vb:Value)(xs ys:List Nat)(w:World)(ha:Digs S w va xs)(hb:Digs S w vb ys)(hS:∀k,S k->k<w.heap.size)(hr:xs.length<=10000000)(hr2:ys.length<=10000000) :
  Calls Tryz.prog 44 #[va,vb] w λ e w'=>∃v',e=.returned v'/\Digs (New w w') w' v' (Z4 10 (val 10 xs+val 10 ys))/\Ext w w':=by
 have HA:=Z_ ha;have HB:=Z_ hb;obtain⟨aa,ca,rfl⟩:=ha.form;obtain⟨ab,cb,rfl⟩:=hb.form;clear ha hb
 go_enter Tryz.func44,Tryz.ntmps44
 go_wp2
 go_loopw [5,6,7] (λ x c i wr=>∃(k O:Nat) (o:List Nat),k<=10000001/\i=.int .i64 k/\c=.int .i64 O/\O<=1/\Hd (o.length=k)/\Hd (xs.length<k->ys.length<k->O=0)/\Hd (∀z∈o,z<10)/\Hd (wr.ownsRow w.heap.size 3 1 x o.length (o.map dval))/\Ext w wr /\
  Hd (val 10 o+10^k*O=val 10 (xs.take k)+val 10 (ys.take k))) (λ _ _ i _=>xs.length+ys.length+2-(intOf i).toNat)
 case atStart=>exact⟨0,0,[],by omega,rfl,rfl,by omega,Z_ rfl,Z_ (λ h=>absurd h (by omega)),Z_ (by simp),Z_ (World.ownsRow_nil _ _ _ _),uP _,Z_ (by simp[val])⟩
 case round=>
  obtain⟨k,O,o,hk,rfl,rfl,hcc,I,HZ,HO,Z,hx,HV⟩:=hrel;have U:o.length<=1000000000:=by have:=I.o;omega
  have HX:=Z_ hx
  by_cases h1:k<xs.length
  ·obtain⟨x,ad⟩:=ZN h1;obtain⟨b1,o1,rfl,-,hn1,hm1,-,hxb,hc1⟩:=(HA.o.ext hx hS).cellAt ad;have ae:=Z_ ad;clear ad
   by_cases h2:k<ys.length
   ·obtain⟨y,K⟩:=ZN h2;obtain⟨b2,o2,rfl,-,af,ah,-,ag,ai⟩:=(HB.o.ext hx hS).cellAt K;have ac:=Z_ K;clear K hx;go_wp2_with (at_builtin;refine XK _ rfl (.tmp 44) (.tmp 47) 93 rfl w.heap.size 3 (.int .i64 0) 1 8 Tryz.underlying93 uD rfl (by decide) _ o.length (o.map dval) rfl Z.o _ rfl (Wo rfl) rfl U (by decide) HX.o.size ?_;intro v1 w1 D X _;have J:=Z_ D;have HG:=Z_ X;clear D X)
    go_roundw
    case rel=>
     refine⟨k+1,(O+(x+y)) / 10,o ++ [(O+(x+y)) % 10],by omega,by go_num,congrArg (Value.int .i64) (by omega),by omega,Z_ (by simp[I.o]),Z_ (λ h=>absurd h (by omega)),Z_ (VI HO.o (yS _ (by decide))),Z_ (V8 J.o (congrArg (Value.int .i64) (by omega))),YU HX.o HG.o (λ q hq=>(Z.o.lt q hq).1),Z_ ?_⟩;exact Wm I.o HV.o (x+y) (by rw[Zi ae.o,Zi ac.o])
    case measure=>simp only[intOf];omega
   ·clear hx;go_wp2_with (at_builtin;refine XK _ rfl (.tmp 44) (.tmp 47) 93 rfl w.heap.size 3 (.int .i64 0) 1 8 Tryz.underlying93 uD rfl (by decide) _ o.length (o.map dval) rfl Z.o _ rfl (Wo rfl) rfl U (by decide) HX.o.size ?_;intro v1 w1 D X _;have J:=Z_ D;have HG:=Z_ X;clear D X)
    go_roundw
    case rel=>
     refine⟨k+1,(O+(x+0)) / 10,o ++ [(O+(x+0)) % 10],by omega,by go_num,congrArg (Value.int .i64) (by omega),by omega,Z_ (by simp[I.o]),Z_ (λ h=>absurd h (by omega)),Z_ (VI HO.o (yS _ (by decide))),Z_ (V8 J.o (congrArg (Value.int .i64) (by omega))),YU HX.o HG.o (λ q hq=>(Z.o.lt q hq).1),Z_ ?_⟩;exact Wm I.o HV.o (x+0) (by rw[Zi ae.o,Yv (l:=ys) (by omega)])
    case measure=>simp only[intOf];omega
  ·by_cases h2:k<ys.length
   ·obtain⟨y,K⟩:=ZN h2;obtain⟨b2,o2,rfl,-,af,ah,-,ag,ai⟩:=(HB.o.ext hx hS).cellAt K;have ac:=Z_ K;clear K hx;go_wp2_with (at_builtin;refine XK _ rfl (.tmp 44) (.tmp 47) 93 rfl w.heap.size 3 (.int .i64 0) 1 8 Tryz.underlying93 uD rfl (by decide) _ o.length (o.map dval) rfl Z.o _ rfl (Wo rfl) rfl U (by decide) HX.o.size ?_;intro v1 w1 D X _;have J:=Z_ D;have HG:=Z_ X;clear D X)
    go_roundw
    case rel=>
     refine⟨k+1,(O+(0+y)) / 10,o ++ [(O+(0+y)) % 10],by omega,by go_num,congrArg (Value.int .i64) (by omega),by omega,Z_ (by simp[I.o]),Z_ (λ _ h=>absurd h (by omega)),Z_ (VI HO.o (yS _ (by decide))),Z_ (V8 J.o (congrArg (Value.int .i64) (by omega))),YU HX.o HG.o (λ q hq=>(Z.o.lt q hq).1),Z_ ?_⟩;exact Wm I.o HV.o (0+y) (by rw[Yv (l:=xs) (by omega),Zi ac.o])
    case measure=>simp only[intOf];omega
   ·clear hx
    by_cases h3:0<O
    ·have hkb:k<=xs.length∨k<=ys.length:=by
      rcases xj xs.length k with g1|g1
      ·rcases xj ys.length k with g2|g2
       ·have:=HZ.o g1 g2;omega
       ·exact .inr g2
      ·exact .inl g1
     go_wp2_with (at_builtin;refine XK _ rfl (.tmp 44) (.tmp 47) 93 rfl w.heap.size 3 (.int .i64 0) 1 8 Tryz.underlying93 uD rfl (by decide) _ o.length (o.map dval) rfl Z.o _ rfl (Wo rfl) rfl U (by decide) HX.o.size ?_;intro v1 w1 D X _;have J:=Z_ D;have HG:=Z_ X;clear D X)
     go_roundw
     case rel=>
      refine⟨k+1,(O+(0+0)) / 10,o ++ [(O+(0+0)) % 10],by omega,by go_num,congrArg (Value.int .i64) (by omega),by omega,Z_ (by simp[I.o]),Z_ (λ _ _=>by omega),Z_ (VI HO.o (yS _ (by decide))),Z_ (V8 J.o (congrArg (Value.int .i64) (by omega))),YU HX.o HG.o (λ q hq=>(Z.o.lt q hq).1),Z_ ?_⟩;exact Wm I.o HV.o (0+0) (by rw[Yv (l:=xs) (by omega),Yv (l:=ys) (by omega)])
     case measure=>simp only[intOf];omega
    ·obtain rfl:O=0:=by omega
     have hd:=QS Z.o HO.o;have HD:=Z_ hd;obtain⟨a1,c1,rfl⟩:=hd.form;have HE:=Z_ (Dq HV.o (by omega) (by omega));clear hd;go_wp2_with fail;refine(Sc _ o _ HD.o).mono ?_;rintro e w' ⟨v',rfl,hu,rfl⟩;have HU:=Z_ hu;clear hu;go_wp2
     all_goals
      go_ret;exact⟨_,rfl,by rw[<-HE.o];exact HU.o,HX.o⟩
theorem Np{S:Nat->Prop}(va vb:Value)(xs ys:List Nat)(w:World)(ha:Digs S w va xs)(hb:Digs S w vb ys)(hS:∀k,S k->k<w.heap.size)(hr:xs.length<=10000000)(hle:ys.length<=xs.length)(hge:val 10 ys<=val 10 xs) :
  Calls Tryz.prog 90 #[va,vb] w λ e w'=>∃v',e=.returned v'/\Digs (New w w') w' v' (Z4 10 (val 10 xs-val 10 ys))/\Ext w w':=by
 have HA:=Z_ ha;have HB:=Z_ hb;have af:=Z_ hge;obtain⟨aa,ca,rfl⟩:=ha.form;obtain⟨ab,cb,rfl⟩:=hb.form;clear ha hb hge
 go_enter Tryz.func90,Tryz.ntmps90
 go_wp2
 go_loopw [5,6,7] (λ x c i wr=>∃(k U:Nat) (o:List Nat),k<=xs.length/\i=.int .i64 k/\c=.int .i64 U/\U<=1/\Hd (o.length=k)/\Hd (∀z∈o,z<10)/\Hd (wr.ownsRow w.heap.size 3 1 x o.length (o.map dval))/\Ext w wr /\
  Hd (val 10 o+val 10 (ys.take k)=val 10 (xs.take k)+10^k*U)) (λ _ _ i _=>xs.length-(intOf i).toNat)
 case atStart=>exact⟨0,0,[],by omega,rfl,rfl,by omega,Z_ rfl,Z_ (by simp),Z_ (World.ownsRow_nil _ _ _ _),uP _,Z_ (by simp[val])⟩
 case round=>
  obtain⟨k,U,o,hk,rfl,rfl,hcc,I,HO,X,hx,HV⟩:=hrel;have K:o.length<=1000000000:=by have:=I.o;omega
  have HX:=Z_ hx
  by_cases h1:k<xs.length
  ·obtain⟨x,ad⟩:=ZN h1;obtain⟨b1,o1,rfl,-,hn1,hm1,-,hxb,hc1⟩:=(HA.o.ext hx hS).cellAt ad;have Z:=Z_ ad;clear ad
   by_cases h2:k<ys.length
   ·obtain⟨y,ac⟩:=ZN h2;obtain⟨b2,o2,rfl,-,hn2,hm2,-,hyb,hc2⟩:=(HB.o.ext hx hS).cellAt ac;have ae:=Z_ ac;clear ac hx
    by_cases hs:y+U<=x
    ·go_wp2_with (at_builtin;refine XK _ rfl (.tmp 35) (.tmp 37) 93 rfl w.heap.size 3 (.int .i64 0) 1 8 Tryz.underlying93 uD rfl (by decide) _ o.length (o.map dval) rfl X.o _ rfl (Wo rfl) rfl K (by decide) HX.o.size ?_;intro v1 w1 D O _;have J:=Z_ D;have HG:=Z_ O;clear D O)
     go_roundw
     case rel=>
      refine⟨k+1,0,o ++ [x-y-U],by omega,by go_num,rfl,by omega,Z_ (by simp[I.o]),Z_ (VI HO.o (by omega)),Z_ (V8 J.o (congrArg (Value.int .i64) (by omega))),YU HX.o HG.o (λ q hq=>(X.o.lt q hq).1),Z_ ?_⟩;exact VH I.o HV.o _ _ (by rw[Zi Z.o,Zi ae.o];omega)
     case measure=>simp only[intOf];omega
    ·go_wp2_with (at_builtin;refine XK _ rfl (.tmp 35) (.tmp 37) 93 rfl w.heap.size 3 (.int .i64 0) 1 8 Tryz.underlying93 uD rfl (by decide) _ o.length (o.map dval) rfl X.o _ rfl (Wo rfl) rfl K (by decide) HX.o.size ?_;intro v1 w1 D O _;have J:=Z_ D;have HG:=Z_ O;clear D O)
     go_roundw
     case rel=>
      refine⟨k+1,1,o ++ [x+10-y-U],by omega,by go_num,rfl,by omega,Z_ (by simp[I.o]),Z_ (VI HO.o (by omega)),Z_ (V8 J.o (congrArg (Value.int .i64) (by omega))),YU HX.o HG.o (λ q hq=>(X.o.lt q hq).1),Z_ ?_⟩;exact VH I.o HV.o _ _ (by rw[Zi Z.o,Zi ae.o];omega)
     case measure=>simp only[intOf];omega
   ·clear hx
    by_cases hs:U<=x
    ·go_wp2_with (at_builtin;refine XK _ rfl (.tmp 35) (.tmp 37) 93 rfl w.heap.size 3 (.int .i64 0) 1 8 Tryz.underlying93 uD rfl (by decide) _ o.length (o.map dval) rfl X.o _ rfl (Wo rfl) rfl K (by decide) HX.o.size ?_;intro v1 w1 D O _;have J:=Z_ D;have HG:=Z_ O;clear D O)
     go_roundw
     case rel=>
      refine⟨k+1,0,o ++ [x-0-U],by omega,by go_num,rfl,by omega,Z_ (by simp[I.o]),Z_ (VI HO.o (by omega)),Z_ (V8 J.o (congrArg (Value.int .i64) (by omega))),YU HX.o HG.o (λ q hq=>(X.o.lt q hq).1),Z_ ?_⟩;exact VH I.o HV.o _ _ (by rw[Zi Z.o,Yv (l:=ys) (by omega)];omega)
     case measure=>simp only[intOf];omega
    ·go_wp2_with (at_builtin;refine XK _ rfl (.tmp 35) (.tmp 37) 93 rfl w.heap.size 3 (.int .i64 0) 1 8 Tryz.underlying93 uD rfl (by decide) _ o.length (o.map dval) rfl X.o _ rfl (Wo rfl) rfl K (by decide) HX.o.size ?_;intro v1 w1 D O _;have J:=Z_ D;have HG:=Z_ O;clear D O)
     go_roundw
     case rel=>
      refine⟨k+1,1,o ++ [x+10-0-U],by omega,by go_num,rfl,by omega,Z_ (by simp[I.o]),Z_ (VI HO.o (by omega)),Z_ (V8 J.o (congrArg (Value.int .i64) (by omega))),YU HX.o HG.o (λ q hq=>(X.o.lt q hq).1),Z_ ?_⟩;exact VH I.o HV.o _ _ (by rw[Zi Z.o,Yv (l:=ys) (by omega)];omega)
     case measure=>simp only[intOf];omega
  ·obtain rfl:k=xs.length:=by omega
   have hd:=QS X.o HO.o;have HD:=Z_ hd;obtain⟨a1,c1,rfl⟩:=hd.form
   have HE:Hd (val 10 o=val 10 xs-val 10 ys):=by
    have h1:=HV.o;rw[zN hle,yW]at h1;exact Z_ (Mr HO.o I.o af.o h1)
   clear hd hx;go_wp2_with fail;refine(Sc _ o _ HD.o).mono ?_;rintro e w' ⟨v',rfl,hu,rfl⟩;have HU:=Z_ hu;clear hu;go_wp2
   all_goals
    go_ret;exact⟨_,rfl,by rw[<-HE.o];exact HU.o,HX.o⟩
end
section
open Go.RowKit
theorem World.rowIs.drewN{w:World}{g n:Nat}{T:TypeId}{f:Nat->Value}(h:w.rowIs g T n f)(q:Nat):(w.drewN q).rowIs g T n f:=h
theorem OD{o:List Nat}{p cc u X:Nat}(hp:p<o.length)(h:val 10 o+10^p*cc=X):val 10 (o.set p ((cc+dg o p+u) % 10))+10^(p+1)*((cc+dg o p+u) / 10)=X+10^p*u:=by
 have h1:=Qs (B:=10) o p ((cc+dg o p+u) % 10) hp;have y:=congrArg (10^p * ·) (wL (cc+dg o p+u) 10);simp only[zy]at y;rw[yY,zu];omega
theorem Ph{B:Nat}{o:List Nat}{p z:Nat}(h:∀x∈o,x<B)(hz:z<B):∀x∈o.set p z,x<B:=by
 intro x hx
 rcases yq hx with h1|h1
 ·exact h x h1
 ·rw[h1];exact hz
theorem K8{o:List Nat}{p j z:Nat}(h:j≠p):dg (o.set p z) j=dg o j:=by
 unfold dg;rw[List.getElem?_set_ne (λ e=>h e.symm)]
def zki(V d Y i:Nat):Nat:=V+10^i*(d*Y)
theorem Mp{V d i k:Nat}{ys:List Nat}:zki V d (val 10 (ys.take k)) i+10^(i+k)*(d*dg ys k)=zki V d (val 10 (ys.take (k+1))) i:=by
 unfold zki;rw[z26,yH,zy,zy,zu,<-zu d,zq d (10^k),zu];omega
theorem IV{xs:List Nat}{i x Y:Nat}(hx:xs[i]? = some x):zki (val 10 (xs.take i)*Y) x Y i=val 10 (xs.take (i+1))*Y:=by
 unfold zki;rw[TR hx,y8,zu]
theorem Fj{xs ys o:List Nat}{i:Nat}(hx:∀z∈xs,z<10)(hy:∀z∈ys,z<10)(hi:i<=xs.length)(h:val 10 o=val 10 (xs.take i)*val 10 ys):∀j,i+ys.length<=j->dg o j=0:=by
 intro j J
 by_cases y:j<o.length
 ·refine Mj (B:=10) (k:=i+ys.length) (by decide) ?_ j J y;rw[h,yH];have D:=Y4 (xs.take i) (λ z hz=>hx z (yU hz));rw[zD,xR hi]at D;have I:=Y4 ys hy;exact xc D I
 ·exact Yv (by omega)
theorem GU{S:Nat->Prop}(va vb:Value)(xs ys:List Nat)(w:World)(ha:Digs S w va xs)(hb:Digs S w vb ys)(hS:∀k,S k->k<w.heap.size)(hr:xs.length<=10000000)(hr2:ys.length<=10000000) :
  Calls Tryz.prog 93 #[va,vb] w λ e w'=>∃v',e=.returned v'/\Digs (New w w') w' v' (Z4 10 (val 10 xs*val 10 ys))/\Ext w w':=by
 have HA:=Z_ ha;have HB:=Z_ hb;have ar:=Z_ ha.lt;have ax:=Z_ hb.lt;obtain⟨aa,ca,rfl⟩:=ha.form;obtain⟨ab,cb,rfl⟩:=hb.form;clear ha hb;have al:=run_make_row' (P:=Tryz.prog) 93 3 (.int .i64 0) 8 Tryz.underlying93 uD rfl .i64 .i64 (xs.length+ys.length+1) (by omega) (by omega) w;rw[show((xs.length+ys.length+1:Nat):Int)=(xs.length:Int)+(ys.length:Int)+1 by omega]at al;obtain⟨L,hL⟩:∃L,L=xs.length+ys.length+1:=⟨_,rfl⟩
 have au:(xs.length:Int)+(ys.length:Int)+1=(L:Int):=by omega
 rw[<-hL,au]at al;have HR:=Z_ (Ot w L 3);have HE:=Z_ (uO (uP w) (.cells (madeCells #[.int .i64 0] L) 3));have HL:=Z_ hL;have hLb:L<=20000001:=by omega
 have hLa:xs.length<L:=by omega
 clear hL
 go_enter Tryz.func93,Tryz.ntmps93
 go_wp2
 go_loopw [6] (λ i wr=>∃(n:Nat) (o:List Nat),n<=xs.length/\i=.int .i64 n/\Hd (o.length=L)/\Hd (∀z∈o,z<10)/\Hd (wr.rowIs w.heap.size 3 L (rowD o))/\Ext w wr/\Hd (val 10 o=val 10 (xs.take n)*val 10 ys)) (λ i _=>xs.length-(intOf i).toNat)
 case atStart=>exact⟨0,List.replicate L 0,zL _,rfl,Z_ (by simp),Z_ (by simp),HR,HE.o,Z_ (by simp[z6q,val])⟩
 case round=>
  obtain⟨n,o,hn,rfl,I,HO,D,X,HV⟩:=hrel
  by_cases aA:n<xs.length
  ·obtain⟨x,af⟩:=ZN aA;obtain⟨b1,o1,rfl,-,hn1,hm1,hS1,hxb,ah⟩:=HA.o.cellAt af;have aq:=Z_ af;have aB:=Z_ ah;have HX:=Z_ X;have Z:=Z_ (Fj ar.o ax.o hn HV.o);have hLn:n+ys.length+1<=L:=by have:=HL.o;omega
   obtain⟨wo,rfl⟩:∃wo:World,wo=wr:=⟨_,rfl⟩
   clear af ah X;go_wp2
   go_loopw [7,8] (λ c kk wr=>∃(k K:Nat) (o:List Nat),k<=ys.length+1/\kk=.int .i64 k/\c=.int .i64 K/\K<=9/\Hd (ys.length<k->K=0)/\Hd (o.length=L)/\Hd (∀z∈o,z<10)/\Hd (wr.rowIs w.heap.size 3 L (rowD o))/\Ext w wr /\
    Hd (k<=ys.length->∀j,n+ys.length<=j->dg o j=0)/\Hd (val 10 o+10^(n+k)*K=zki (val 10 (xs.take n)*val 10 ys) x (val 10 (ys.take k)) n)) (λ _ kk _=>ys.length+1-(intOf kk).toNat)
   case atStart=>exact⟨0,0,o,zL _,rfl,rfl,by omega,Z_ (λ h=>absurd h (by omega)),I,HO,D,HX.o,Z_ (λ _=>Z.o),Z_ (by rw[HV.o];simp[zki,val])⟩
   case round=>
    obtain⟨k,K,o,hk,rfl,rfl,hcc,HZ,I,HO,D,X,Z,HV⟩:=hrel;have HX:=Z_ X;have ah:=X.cell aB.o
    by_cases h2:k<ys.length
    ·obtain⟨y,ae⟩:=ZN h2;obtain⟨b2,o2,rfl,-,hn2,hm2,-,hyb,hc2⟩:=(HB.o.ext X hS).cellAt ae;have ap:=Z_ ae;have O:n+k<L:=by omega
     have U:=D.o.cell (i:=n+k) O;have az:=D.o.frozen (n+k);have av:=TX (B:=10) (by decide) HO.o (n+k);obtain⟨s,hs⟩:∃s,s=dg o (n+k):=⟨_,rfl⟩
     obtain⟨p,hp⟩:∃p:Nat,p=x*y:=⟨_,rfl⟩
     have hpb:p<=9*9:=by rw[hp];exact yR (by omega) (by omega)
     have hmul:(x:Int)*(y:Int)=(p:Int):=by rw[hp];simp
     unfold rowD dval at U;rw[<-hs]at U av;have HS:=Z_ hs;have HP:=Z_ hp;clear ae hs hp X;go_wp2
     go_quiet (fail)
     go_wp2
     go_roundw
     case rel=>
      have J:n+k<o.length:=by rw[I.o];exact O
      have ac:=Rn (World.rowIs.drewN D.o nq) (n+k) ((K+s+p) % 10) J
      refine⟨k+1,(K+s+p) / 10,o.set (n+k) ((K+s+p) % 10),by omega,by go_num,congrArg (Value.int .i64) (by omega),by omega,Z_ (λ h=>absurd h (by omega)),Z_ (by simpa using I.o),Z_ (Ph HO.o (yS _ (by decide))),Z_ ?_,(HX.o.drewN nq).setCell (p:=⟨w.heap.size,n+k,none⟩) (zR _) _,Z_ (λ _ j hj=>?_),Z_ ?_⟩
      ·refine cast (congrArg (λ e=>World.rowIs (World.setCell (wr.drewN nq) ⟨w.heap.size,n+k,none⟩ (Value.int .i64 e)) _ _ _ _) ?_) ac;omega
      ·rw[K8 (by omega)];exact Z.o (by omega) j hj
      ·have h1:=OD (u:=p) J HV.o;rw[<-HS.o]at h1;rw[show n+(k+1)=n+k+1 by omega,h1,HP.o,<-Zi ap.o];exact Mp
     case measure=>simp only[intOf];omega
    ·have ai:ys.length<=k:=by omega
     clear X
     by_cases h3:0<K
     ·have aj:k=ys.length:=by
       rcases xj ys.length k with g1|g1
       ·have:=HZ.o g1;omega
       ·omega
      have O:n+k<L:=by omega
      have U:=D.o.cell (i:=n+k) O;have az:=D.o.frozen (n+k);have ag:dg o (n+k)=0:=Z.o (by omega) _ (by omega);unfold rowD dval at U;rw[ag]at U;have HS:=Z_ ag;have ad:=Z_ aj;clear ag aj;go_wp2
      go_roundw
      case rel=>
       have J:n+k<o.length:=by rw[I.o];exact O
       have ac:=Rn D.o (n+k) ((K+0+0) % 10) J
       refine⟨k+1,(K+0+0) / 10,o.set (n+k) ((K+0+0) % 10),by have:=ad.o;omega,by go_num,congrArg (Value.int .i64) (by omega),by omega,Z_ (λ _=>by omega),Z_ (by simpa using I.o),Z_ (Ph HO.o (yS _ (by decide))),Z_ ?_,HX.o.setCell (p:=⟨w.heap.size,n+k,none⟩) (zR _) _,Z_ (λ h=>absurd h (by have:=ad.o;omega)),Z_ ?_⟩
       ·refine cast (congrArg (λ e=>World.rowIs (World.setCell wr ⟨w.heap.size,n+k,none⟩ (Value.int .i64 e)) _ _ _ _) ?_) ac;omega
       ·have h1:=OD (u:=0) J HV.o;rw[HS.o]at h1;rw[show n+(k+1)=n+k+1 by omega,h1,<-Mp,(Yv ai:dg ys k=0)];simp
      case measure=>have:=ad.o;simp only[intOf];omega
     ·obtain rfl:K=0:=by omega
      go_wp2
      go_roundw
      case rel=>
       refine⟨n+1,o,by omega,by go_num,I,HO,D,HX.o,Z_ ?_⟩;have h1:=HV.o;rw[zN ai,IV aq.o]at h1;simpa using h1
      case measure=>simp only[intOf];omega
  ·obtain rfl:n=xs.length:=by omega
   have HX:=Z_ X;have hd:=Digs.of_row D.o I.o HO.o (by omega);have HD:=Z_ hd;have ay:Hd (val 10 o=val 10 xs*val 10 ys):=Z_ (by simpa using HV.o);clear X hd;go_wp2_with fail;refine(Sc _ o _ HD.o).mono ?_;rintro e w' ⟨v',rfl,hu,rfl⟩;have HU:=Z_ hu;clear hu;go_wp2
   all_goals
    go_ret;refine⟨_,rfl,?_,HX.o⟩;rw[<-ay.o];refine HU.o.to (uN _ _) (λ k hk=>?_);subst hk;exact⟨zR _,D.o.lt⟩
end
section
open Go.RowKit
theorem GO{S:Nat->Prop}(v:Value)(zs:List Nat)(w:World)(h:U32s S w v zs)(hS:∀k,S k->k<w.heap.size)(hr:zs.length<=50000000000000) :
  Calls Tryz.prog 102 #[v] w λ e w'=>∃g,e=.returned (.slice (some ⟨g,0,none⟩) (Z4 Z9 (val Z9 zs)).length (Z4 Z9 (val Z9 zs)).length)/\w.heap.size<=g/\g<w'.heap.size /\
   w'.rowIs g 75 (Z4 Z9 (val Z9 zs)).length (rowU (Z4 Z9 (val Z9 zs)))/\Ext w w':=by
 have K:(Z4 Z9 (val Z9 zs)).length<=zs.length:=YZ ZU _ _ (Y4 zs h.lt);have H:=Z_ h;obtain⟨a,cap,rfl⟩:=h.form;clear h;have D:=λ(n:Nat) (hn:n<=50000000000000) (W:World)=>run_make_row' (P:=Tryz.prog) 26 75 (.int .u32 0) 4 Tryz.underlying26 uC rfl .i64 .i64 n (by omega) (by omega) W
 go_enter Tryz.func102,Tryz.ntmps102
 go_wp2_with fail;refine(Xo _ zs _ H.o).mono ?_;rintro e w' ⟨v',rfl,I,rfl⟩;generalize hR:Z4 Z9 (val Z9 zs)=R at I K;have HR:=Z_ hR;have O:=Z_ I;obtain⟨a',X,rfl⟩:=I.form;have hmk1:=D R.length (by omega) w;have Z:=Z_ (uO (uP w) (.cells (madeCells #[.int .u32 0] R.length) 75));have J:=Z_ (O.o.to (uw hS (.cells (madeCells #[.int .u32 0] R.length) 75)) (λ _ h=>h));have hc':=O.o.len_le;clear hR I D;go_wp2_with (refine wpList_copy_splice (by rfl) (.tmp 9) (.tmp 10) 26 26 (by rfl) 75 Tryz.underlying26 (by kernel_rfl) (some ⟨w.heap.size,0,none⟩) a' R.length R.length R.length X (by rfl) (by rfl) w.heap.size 0 (List.replicate R.length (.int .u32 0)) 75 (by rw[heap_alloc_new,N8]) (R.map YI) (by simp) (λ hp=>⟨rfl,J.o.src hp⟩) (by simp) (by intro v hv;obtain⟨z,_,rfl⟩:=zG.1 hv;rfl) w.heap.size w Z.o (zR _) ?_;intro w2 y hb);have U:=Z_ y;have HB:=Z_ hb;clear y hb;go_wp2;go_ret;rw[HR.o];have y:=U.o.out;rw[MM _ _ (by simp)]at y;refine⟨_,rfl,zR _,(yg.1 y).1,⟨_,y,by simp,λ i hi=>?_⟩,HB.o⟩;rw[yv,yZ,zi hi];show some (YI R[i])=some (Value.int .u32 (dg R i:Nat));rw[Zi (zi hi)];rfl
theorem Ih{d m r x Q:Nat}{R o:List Nat}(hd:0<d)(hm:m<o.length)(hx:dg R m=x)(hq:val Z9 (o.drop (m+1))=Q)(hr:r<d)(hx2:x<Z9)(h:val Z9 (R.drop (m+1))=d*Q+r) :
  (r*Z9+x) / d<Z9/\val Z9 (R.drop m)=d*val Z9 ((o.set m ((r*Z9+x) / d)).drop m)+(r*Z9+x) % d:=by
 refine⟨xu ?_,?_⟩
 ·have D:(r+1)*Z9<=d*Z9:=zF _ hr;rw[y8,yM]at D;omega
 ·rw[z1t R m,h,hx,z1t (o.set m _) m];have z:dg (o.set m ((r*Z9+x) / d)) m=(r*Z9+x) / d:=by unfold dg;rw[xV];simp[hm]
  have y:(o.set m ((r*Z9+x) / d)).drop (m+1)=o.drop (m+1):=by rw[List.drop_set_of_lt (by omega)]
  rw[z,y,hq];have e3:=xr (r*Z9+x) d;rw[zy,zy,xK d Z9 Q];have e4:Z9*r=r*Z9:=zq _ _;omega
theorem FX{S:Nat->Prop}(v:Value)(zs:List Nat)(d:Nat)(w:World)(h:U32s S w v zs)(hS:∀k,S k->k<w.heap.size)(hr:zs.length<=1000000000000)(hd:0<d)(hd2:d<Z9) :
  Calls Tryz.prog 134 #[v,.int .u32 (d:Nat)] w λ e w'=>∃v',e=.returned (.tuple #[v',.int .u32 (val Z9 zs % d:Nat),.int .i64 0])/\U32s (New w w') w' v' (Z4 Z9 (val Z9 zs / d))/\Ext w w':=by
 have ap:(Z4 Z9 (val Z9 zs)).length<=zs.length:=YZ ZU _ _ (Y4 zs h.lt);have H:=Z_ h;clear h;have hd0:(d:Int)≠0:=by omega
 have hd64:IntKind.u64.wrap (d:Int)=(d:Int):=Yg (yD hd2 (by decide));have HD:=Z_ (zS hd hd2);clear hd hd2
 go_enter Tryz.func134,Tryz.ntmps134
 go_wp2_with fail;refine(GO _ zs _ H.o hS (by omega)).mono ?_;rintro e w1 ⟨g,rfl,ai,hg2,y,U⟩;obtain⟨L,hL⟩:∃L,L=(Z4 Z9 (val Z9 zs)).length:=⟨_,rfl⟩
 rw[<-hL]at y ap⊢;obtain⟨V,hV⟩:∃V,V=val Z9 zs:=⟨_,rfl⟩
 rw[<-hV]at y hL;have HL:=Z_ hL;have HV:=Z_ hV;have ah:=Z_ U;have aq:=Z_ y;have HS1:=Z_ U.size;clear hL hV U y;go_wp2
 go_loopw [7,16] (λ s7 s16 wr=>∃(i r:Nat) (o:List Nat),s7=.int .u64 (r:Nat)/\s16=.int .i64 (i:Nat)/\i<=L/\Hd (r<d/\o.length=L/\(∀z∈o,z<Z9)/\(∀j,j<L-i->dg o j=dg (Z4 Z9 V) j)/\val Z9 ((Z4 Z9 V).drop (L-i))=d*val Z9 (o.drop (L-i))+r) /\
  wr.rowIs g 75 L (rowU o)/\Ext w wr) (λ s7 s16 _=>L-(intOf s16).toNat)
 case atStart=>
  refine⟨0,0,Z4 Z9 V,rfl,rfl,zL _,Z_ ⟨HD.o.1,HL.o.symm,XX ZU V,λ _ _=>rfl,?_⟩,aq.o,ah.o⟩;rw[zt (by rw[<-HL.o];omega)];rfl
 case round=>
  obtain⟨i,r,o,rfl,rfl,hi,HI,y,U⟩:=hrel;have HR:=Z_ y;have HX:=Z_ U
  by_cases hlt:i<L
  ·obtain⟨m,hm⟩:∃m,m+1=L-i:=⟨L-i-1,by omega⟩
   have hm2:(L:Int)-1-(i:Int)=(m:Int):=by omega
   obtain⟨x,aa⟩:=ZN (l:=Z4 Z9 V) (j:=m) (by rw[<-HL.o];omega);have X:=Zi aa;have J:x<4294967296:=XX ZU V x (zP aa)
   have hc1:wr.cell? ⟨g,m,none⟩=some (.int .u32 (x:Nat)):=by
    rw[y.cell (i:=m) (by omega)];show some (Value.int .u32 (dg o m:Nat))=_;rw[HI.o.2.2.2.1 m (by omega),X]
   have hf1:=y.frozen m;have hx64:IntKind.u64.wrap (x:Int)=(x:Int):=Yg (yD J (by decide));have ae:r<4294967296:=yD HI.o.1 HD.o.2;have af:=SB r x ae J;obtain⟨t,ht⟩:∃t,t=r*4294967296+x:=⟨_,rfl⟩
   rw[<-ht]at af;have hsh:IntKind.u64.wrap ((r:Int)*4294967296)=(r:Int)*4294967296:=by rw[IntKind.wrap_u64];omega
   have HT:=Z_ ht;have ag:=Z_ X;have aj:=Z_ J;have hi0:0<=(L:Int)-1-(i:Int):=by omega
   have hml:(m:Int)<(L:Int):=by omega
   clear y U aa X J ae ht;go_wp2;obtain⟨I,O,K,Z,D⟩:=HI.o;rw[<-hm]at D;obtain⟨q1,q2⟩:=Ih (o:=o) HD.o.1 (by omega) ag.o rfl I aj.o D;have ht:=HT.o;have ac:t / d<4294967296:=by rw[ht];exact q1
   have e1:IntKind.u64.wrap ((t:Int) / (d:Int)) % 4294967296=((t / d:Nat):Int):=by
    rw[<-wR,Yg (yD ac (by decide))];generalize t / d=q at ac;omega
   rw[e1]
   refine⟨⟨i+1,t % d,o.set m (t / d),by rw[Int.natCast_emod],rfl,by omega,Z_ ⟨yS _ HD.o.1,by simp[O],?_,?_,?_⟩,Vq HR.o m (t / d) (by omega),HX.o.setCell ai _⟩,?_⟩
   ·intro z hz
    rcases yq hz with h1|h1
    ·exact K z h1
    ·rw[h1];exact ac
   ·intro j hj;rw[K8 (by omega),Z j (by omega)]
   ·rw[show L-(i+1)=m by omega,ht];exact q2
   ·simp only[intOf];omega
  ·obtain rfl:i=L:=by omega
   obtain⟨I,O,K,Z,D⟩:=HI.o;rw[xZ,wg,wg,ZB ZU]at D;have hq:val Z9 o=V / d:=by rw[D,wI HD.o.1,yb I,zp]
   have hm:r=V % d:=by rw[D,wH,yB I]
   have hu:U32s (λ k=>k=g) wr (.slice (some ⟨g,0,none⟩) i i) o:=by
    have h1:=uA y (by omega) K (by omega)
    rwa [O]at h1
   have CS:=Z_ (XY _ _ _ hu (λ k hk=>by rw[hk];exact y.lt) (by omega));rw[hq]at CS;have hr32:(r:Int) % 4294967296=(r:Int):=by have h1:r<4294967296:=yD I HD.o.2;omega
   have HM:=Z_ hm;clear y U I O K Z D hq hm hu;go_wp2_with fail;refine CS.o.mono ?_;rintro e w' ⟨v',rfl,hu,ad⟩;have H2:=Z_ hu;have al:=Z_ ad;clear hu ad;go_wp2
   all_goals
    go_ret3
    rw[<-HV.o,<-HM.o];exact⟨_,rfl,H2.o.to (uN _ _) (λ k hk=>⟨zT HX.o.size hk.1,hk.2⟩),HX.o.trans al.o⟩
end
section
open Go.RowKit
theorem I9:∀i:Fin 256,0<i.val->1<=(Zq.get! i.val).toNat/\(Zq.get! i.val).toNat<=8/\2^((Zq.get! i.val).toNat-1)<=i.val/\i.val<2^(Zq.get! i.val).toNat:=by decide +kernel
theorem Ja(x:Int)(h0:0<x)(h1:x<256)(h:x.toNat<Zq.size):1<=(Zq[x.toNat]'h).toNat/\(Zq[x.toNat]'h).toNat<=8/\2^((Zq[x.toNat]'h).toNat-1)<=x.toNat/\x.toNat<2^(Zq[x.toNat]'h).toNat:=by
 have:=I9 ⟨x.toNat,by omega⟩
 have e:Zq.get! x.toNat=Zq[x.toNat]'h:=by
  have h2:x.toNat<Zq.data.size:=h;show Zq.data[x.toNat]! = Zq.data[x.toNat]'h2;exact getElem!_pos _ _ _
 simp only[e]at this;exact this (by omega)
theorem R3(x:Int)(h0:0<x)(h1:x<256)(h:x.toNat<Zq.size)(t:Nat)(hv:(Zq[x.toNat]'h).toNat=t):1<=t/\t<=8/\2^(t-1)<=x.toNat/\x.toNat<2^t:=by
 subst hv;exact Ja x h0 h1 h
theorem RJ{x i t j:Nat}(hi:x / 2^j=i)(h1:1<=t)(h2:2^(t-1)<=i)(h3:i<2^t):2^(t+j-1)<=x/\x<2^(t+j):=by
 have y:0<2^j:=yK (by decide);subst hi
 refine⟨?_,?_⟩
 ·rw[show t+j-1=(t-1)+j by omega,yH];exact zT (zF _ h2) (Nat.div_mul_le_self _ _)
 ·rw[yH,<-Nat.div_lt_iff_lt_mul y];exact h3
theorem JA(x:Int)(w:World)(h0:0<x)(h1:x<4294967296) :
  Calls Tryz.prog 101 #[.int .u32 x] w λ e w'=>∃k:Nat,e=.returned (.int .i64 (k:Nat))/\1<=k/\k<=32/\2^(k-1)<=x.toNat/\x.toNat<2^k/\w=w':=by
 go_enter Tryz.func101,Tryz.ntmps101
 rcases(show 16777216<=x∨65536<=x/\x<16777216∨256<=x/\x<65536∨x<256 by omega) with h|⟨h,J⟩|⟨h,J⟩|h
 ·go_wp2;go_ret;simp only[yJ,yv,yO,yu,yA];generalize hv:UInt8.toNat _=t;have hi:x.toNat / 2^24=(x / 65536 / 256).toNat:=by show x.toNat / 16777216=_;omega
  obtain⟨D,I,y,z⟩:=R3 (x / 65536 / 256) (by omega) (by omega) (by rw[VJ];omega) t hv;clear hv;have P:=Z_ (RJ hi D y z);clear y z hi;have e:wrap64 (24+wrap64 (t:Int))=((t+24:Nat):Int):=by unfold wrap64;omega
  exact⟨t+24,congrArg (λ n=>Ending.returned (Value.int .i64 n)) e,by omega,by omega,P.o.1,P.o.2,trivial⟩
 ·go_wp2;go_ret;simp only[yJ,yv,yO,yu,yA];generalize hv:UInt8.toNat _=t;have hi:x.toNat / 2^16=(x / 65536).toNat:=by show x.toNat / 65536=_;omega
  obtain⟨D,I,y,z⟩:=R3 (x / 65536) (by omega) (by omega) (by rw[VJ];omega) t hv;clear hv;have P:=Z_ (RJ hi D y z);clear y z hi;have e:wrap64 (16+wrap64 (t:Int))=((t+16:Nat):Int):=by unfold wrap64;omega
  exact⟨t+16,congrArg (λ n=>Ending.returned (Value.int .i64 n)) e,by omega,by omega,P.o.1,P.o.2,trivial⟩
 ·go_wp2;go_ret;simp only[yJ,yv,yO,yu,yA];generalize hv:UInt8.toNat _=t;have hi:x.toNat / 2^8=(x / 256).toNat:=by show x.toNat / 256=_;omega
  obtain⟨D,I,y,z⟩:=R3 (x / 256) (by omega) (by omega) (by rw[VJ];omega) t hv;clear hv;have P:=Z_ (RJ hi D y z);clear y z hi;have e:wrap64 (8+wrap64 (t:Int))=((t+8:Nat):Int):=by unfold wrap64;omega
  exact⟨t+8,congrArg (λ n=>Ending.returned (Value.int .i64 n)) e,by omega,by omega,P.o.1,P.o.2,trivial⟩
 ·go_wp2;go_ret;simp only[yJ,yv,yO,yu,yA];generalize hv:UInt8.toNat _=t;have hi:x.toNat / 2^0=x.toNat:=by show x.toNat / 1=_;omega
  obtain⟨D,I,y,z⟩:=R3 x (by omega) (by omega) (by rw[VJ];omega) t hv;clear hv;have P:=Z_ (RJ hi D y z);clear y z hi;have e:wrap64 (wrap64 (t:Int))=((t+0:Nat):Int):=by unfold wrap64;omega
  exact⟨t+0,congrArg (λ n=>Ending.returned (Value.int .i64 n)) e,by omega,by omega,P.o.1,P.o.2,trivial⟩
theorem KC{S:Nat->Prop}(v:Value)(zs:List Nat)(w:World)(h:U32s S w v zs)(hr:zs.length<=50000000000000)(h0:0<val Z9 zs) :
  Calls Tryz.prog 62 #[v] w λ e w'=>∃m k:Nat,e=.returned (.int .i64 (32*m+k:Nat))/\(Z4 Z9 (val Z9 zs)).length=m+1/\1<=k/\k<=32/\2^(k-1)<=dg (Z4 Z9 (val Z9 zs)) m/\dg (Z4 Z9 (val Z9 zs)) m<2^k/\w=w':=by
 have U:(Z4 Z9 (val Z9 zs)).length<=zs.length:=YZ ZU _ _ (Y4 zs h.lt);have H:=Z_ h;obtain⟨a,c,rfl⟩:=h.form;clear h
 go_enter Tryz.func62,Tryz.ntmps62
 go_wp2_with fail;refine(Xo _ zs _ H.o).mono ?_;rintro e w' ⟨v',rfl,K,rfl⟩;obtain⟨n,I⟩:∃n,n=val Z9 zs:=⟨_,rfl⟩
 rw[<-I]at K U h0;have HN:=Z_ I;have HU:=Z_ K;obtain⟨a',c',rfl⟩:=K.form;clear K I
 have hl:0<(Z4 Z9 n).length:=by
  rw[yF,Ne,WG ZU];omega
 obtain⟨m,hm⟩:∃m,(Z4 Z9 n).length=m+1:=⟨(Z4 Z9 n).length-1,by omega⟩
 obtain⟨z,J⟩:=ZN (show m<(Z4 Z9 n).length by omega)
 have hz0:0<z:=by
  have h1:=Rc ZU n;rw[xz,show(Z4 Z9 n).length-1=m by omega,J]at h1;have:z≠0:=λ e=>h1 (by rw[e]);omega
 obtain⟨b,off,rfl,-,I,hm2,-,hzb,hc⟩:=HU.o.cellAt J;have HM:=Z_ hm;have Z:=Z_ J;have hb:(((Z4 Z9 n).length:Int) == 0)=false:=by rw[beq_eq_false_iff_ne];omega
 have hi1:((Z4 Z9 n).length:Int)-1=(m:Int):=by omega
 clear J;go_wp2_with fail;refine(JA z _ (by omega) (by omega)).mono ?_;rintro e w' ⟨k,rfl,X,O,D,y,rfl⟩;rw[xU]at D y;have HK:=Z_ (zS D y);clear D y;go_wp2;go_ret;rw[<-HN.o]
 refine⟨m,k,congrArg (λ n=>Ending.returned (Value.int .i64 n)) (by push_cast;rfl),HM.o,X,O,?_,?_,rfl⟩
 ·rw[Zi Z.o];exact HK.o.1
 ·rw[Zi Z.o];exact HK.o.2
theorem Ex{V m k:Nat}(hl:(Z4 Z9 V).length=m+1)(hk1:1<=k)(hk2:k<=32)(h1:2^(k-1)<=dg (Z4 Z9 V) m)(h2:dg (Z4 Z9 V) m<2^k) :
  (Z4 Z9 (V*2^(32-k))).length=m+1/\2147483648<=dg (Z4 Z9 (V*2^(32-k))) m:=by
 have hV:=ZB ZU V;have hd:=z1t (B:=Z9) (Z4 Z9 V) m;have J:=Xv (B:=Z9) (Z4 Z9 V) m;rw[hV,hl,show min m (m+1)=m by omega,hd,zt (by omega),show val Z9 []=0 from rfl,yw,zp]at J
 have I:val Z9 ((Z4 Z9 V).take m)<Z9^m:=by
  have y:=Y4 ((Z4 Z9 V).take m) (λ z hz=>XX ZU V z (yU hz))
  rwa [zD,show min m (Z4 Z9 V).length=m by omega]at y
 generalize val Z9 ((Z4 Z9 V).take m)=lo at J I;generalize dg (Z4 Z9 V) m=z at J h1 h2;have X:0<2^(32-k):=yK (by decide);have hB:2^k*2^(32-k)=Z9:=by rw[<-yH,show k+(32-k)=32 by omega]
 have hH:2^(k-1)*2^(32-k)=2147483648:=by rw[<-yH,show k-1+(32-k)=31 by omega]
 have D:V*2^(32-k)<Z9^(m+1):=by
  have y:V<Z9^m*2^k:=by
   have Z:Z9^m*(z+1)<=Z9^m*2^k:=yV _ h2;rw[zy,wO]at Z;omega
  have U:=xI y X
  rwa [zu,hB,<-yY]at U
 have O:2147483648*Z9^m<=V*2^(32-k):=by
  have y:Z9^m*2^(k-1)<=V:=by
   have Z:Z9^m*2^(k-1)<=Z9^m*z:=yV _ h1;omega
  have U:=zF (2^(32-k)) y
  rwa [zu,hH,zq]at U
 have K:0<Z9^m:=yK (by decide);have hq:2147483648<=V*2^(32-k) / Z9^m:=(Nat.le_div_iff_mul_le K).2 O;have hle:(Z4 Z9 V).length<=(Z4 Z9 (V*2^(32-k))).length:=Yp (y9 _ X);have hge:(Z4 Z9 (V*2^(32-k))).length<=m+1:=YZ ZU _ _ D;refine⟨by omega,?_⟩;rw[QC (by decide) _ (XX ZU _),ZB ZU,yB (xu (by rw[<-yY];exact D))];exact hq
end
section
open Go.RowKit
theorem OU{B:Nat}{u:List Nat}(hu:∀z∈u,z<B)(k n:Nat):∀z∈Y6 u k n,z<B:=λ z hz=>hu z (List.mem_of_mem_drop (yU hz))
theorem Q6{B:Nat}{u ps:List Nat}(hu:∀z∈u,z<B)(hp:∀z∈ps,z<B)(k:Nat):∀z∈ZF u k ps,z<B:=by
 intro z y;unfold ZF at y
 rcases zC.1 y with h|h
 ·rcases zC.1 h with h|h
  ·exact hu z (yU h)
  ·exact hp z h
 ·exact hu z (List.mem_of_mem_drop h)
theorem Qb{B:Nat}{u:List Nat}(hu:∀z∈u,z<B){k q:Nat}(hq:q<B):∀z∈u.set k q,z<B:=by
 intro z hz
 rcases yq hz with h1|h1
 ·exact hu z h1
 ·rw[h1];exact hq
theorem FB{u ps:List Nat}{k n:Nat}(hk:k+n<u.length)(hp:ps.length=n+1):Y6 (ZF u k ps) k n=ps:=by
 unfold Y6 ZF;have hl:(u.take k).length=k:=by rw[zD];omega
 rw[zB,vX (by omega),zt (by omega),yL,vW (by omega),zN (by omega)]
theorem Kx{u ps rs:List Nat}{k n:Nat}(hk:k+n<u.length)(hp:ps.length=n+1)(hr:rs.length=n+1):ZF (ZF u k ps) k rs=ZF u k rs:=by
 unfold ZF;have D:(u.take k).length=k:=by rw[zD];omega
 have y:(u.take k++ps).length=k+ps.length:=by rw[zI,D]
 have z:(u.take k++ps++u.drop (k+ps.length)).take k=u.take k:=by
  rw[zB,vW (by omega),zN (by omega)]
 have I:(u.take k++ps++u.drop (k+ps.length)).drop (k+rs.length)=u.drop (k+rs.length):=by
  rw[show k+rs.length=(u.take k++ps).length by omega,List.drop_left,y]
 rw[z,I]
theorem E8{k n V:Nat}{o vs:List Nat}(ho:∀z∈o,z<Z9)(hvs:∀z∈vs,z<Z9)(hk:k+(n+1)<o.length)(lv:vs.length=n+1)(hV:val Z9 vs=V)(hlow:val Z9 (o.drop (k+1))<V) :
  dg (Y6 o k (n+1)) (n+1)<=dg vs n:=by
 have J:V<Z9^(n+1):=by rw[<-hV,<-lv];exact Y4 vs hvs
 obtain⟨-,p2,-⟩:=Ql ZU ho hk J hlow;have D:=Xv (B:=Z9) (Y6 o k (n+1)) (n+1);rw[Wb hk,show min (n+1) (n+1+1)=n+1 by omega,z1t,zt (by rw[Wb hk];omega),show val Z9 []=0 from rfl,yw,zp]at D;have y:=Xv (B:=Z9) vs n;rw[lv,show min n (n+1)=n by omega,z1t,zt (by omega),show val Z9 []=0 from rfl,yw,zp,hV]at y
 have hl:val Z9 (vs.take n)<Z9^n:=by
  have I:=Y4 (vs.take n) (λ z hz=>hvs z (yU hz))
  rwa [zD,show min n vs.length=n by omega]at I
 simp only[zp]at D;generalize dg (Y6 o k (n+1)) (n+1)=t at D⊢;generalize dg vs n=z at y⊢;have K:V<Z9^n*(z+1):=by rw[zy,wO];omega
 have h2:Z9*V<=Z9*(Z9^n*(z+1)):=yV _ (xi K)
 have I:Z9^(n+1)*t<Z9^(n+1)*(z+1):=by
  rw[yY,zq (Z9^n) Z9,zu Z9 (Z9^n) (z+1)];rw[yY,zq (Z9^n) Z9]at D;omega
 have:=xw I;omega
theorem Id{A V m k q r:Nat}{o qs vs:List Nat}(ho:∀z∈o,z<Z9)(hvs:∀z∈vs,z<Z9)(hk:k+(m+2)<o.length)(hkq:k<qs.length)(lv:vs.length=m+2)(hV:val Z9 vs=V)(hV1:2147483648<=dg vs (m+1))
  (h:NDivAt Z9 A V (m+2) o qs (k+1)) (ht:r+q*dg vs (m+1)=dg (Y6 o k (m+2)) (m+2)*Z9+dg (Y6 o k (m+2)) (m+1)) (hqB:q<Z9) (hc:q*dg vs m<=r*Z9+dg (Y6 o k (m+2)) m)
  (hok:UW Z9 (dg (Y6 o k (m+2)) (m+2)*Z9+dg (Y6 o k (m+2)) (m+1)) (dg (Y6 o k (m+2)) m) (dg vs (m+1)) (dg vs m) q)
  {ps:List Nat} {b:Nat} (hb:b<=1) (hpl:ps.length=m+2+1) (hps:∀z∈ps,z<Z9) (hp:val Z9 ps+q*val Z9 vs=val Z9 (Y6 o k (m+2))+Z9^(m+2+1)*b) :
  (b=0->NDivAt Z9 A V (m+2) (ZF o k ps) (qs.set k q) k) /\
  (b=1->0<q/\∀rs:List Nat,rs.length=m+2+1->val Z9 rs=(val Z9 ps+val Z9 vs) % Z9^(m+2+1)->NDivAt Z9 A V (m+2) (ZF o k rs) (qs.set k (q-1)) k):=by
 have y:V<Z9^(m+2):=by rw[<-hV,<-lv];exact Y4 vs hvs
 obtain⟨-,p2,-⟩:=Ql ZU ho hk y h.low;have D:=OU ho k (m+2);obtain⟨U,X⟩:=EE ZU (us:=Y6 o k (m+2)) (vs:=vs) (n:=m+2) (q:=q) (r:=r) D hvs (Wb hk) lv (by omega) (show 0<dg vs (m+1) by omega) (by rw[hV];exact p2) ht hqB hc hok;rw[hV]at U X hp⊢;have hU:val Z9 (Y6 o k (m+2))<Z9^(m+2+1):=by rw[<-Wb hk];exact Y4 _ D
 have hP:val Z9 ps<Z9^(m+2+1):=by rw[<-hpl];exact Y4 _ hps
 have O:V<=Z9^(m+2+1):=zT (xi y) (zA (by decide) (by omega))
 have I:0<V:=by
  have:=h.low;omega
 obtain⟨Z,d2⟩:=AQ hP hb hp U X hU O
 refine⟨λ e=>?_,λ e=>?_⟩
 ·obtain⟨K,J⟩:=Z e;rw[K];exact Oz ZU ho hk hkq y h hpl J I
 ·obtain⟨e0,K,J⟩:=d2 e;refine⟨e0,λ rs hl hr=>?_⟩;rw[K];exact Oz ZU ho hk hkq y h hl (hr.trans J) I
theorem EN{A V n La s lu Bv:Nat}{o qs:List Nat}(ho:∀z∈o,z<Z9)(lo:o.length=La+1)(hA:val Z9 o=A*2^s)(lA:(Z4 Z9 A).length=La)(hn:1<=n)(hla:n<=La)(hV:V=Bv*2^s)(lB:(Z4 Z9 Bv).length=n)(hq:qs.length=La+1-n)(_h:lu=0) :
  NDivAt Z9 (A*2^s) V n o qs (La+1-n):=by
 refine⟨?_,?_⟩
 ·rw[zt (by omega),show val Z9 []=0 from rfl,yw,yw,zp,hA]
 ·have y:=Xv (B:=Z9) o (La+1-n);rw[lo,show min (La+1-n) (La+1)=La+1-n by omega,hA]at y;have J:A<Z9^La:=by rw[<-lA];have:=Y4 (Z4 Z9 A) (XX ZU A);rwa [ZB ZU]at this
  have I:Z9^(n-1)<=Bv:=by
   by_cases h:Z9^(n-1)<=Bv
   ·exact h
   ·have:=YZ ZU Bv (n-1) (by omega);omega
  have D:0<2^s:=yK (by decide)
  have h3:A*2^s<Z9^(La+1-n)*V:=by
   rw[hV]
   have O:Z9^La*2^s<=Z9^(La+1-n)*(Bv*2^s):=by
    rw[<-zu];refine zF _ ?_;have e:Z9^La=Z9^(La+1-n)*Z9^(n-1):=by rw[<-yH,show La+1-n+(n-1)=La by omega]
    rw[e];exact yV _ I
   exact zU (xI J D) O
  have K:Z9^(La+1-n)*val Z9 (o.drop (La+1-n))<Z9^(La+1-n)*V:=by omega
  exact xw K
theorem Cp{w:World}{T:TypeId}{g k n cap:Nat}{o:List Nat}(hrow:w.rowIs g T cap (rowU o))(ho:∀z∈o,z<Z9)(hk:k+n<o.length)(hc:o.length<=cap)(hcap:cap<=9223372036854775807) :
  U32s (λ j=>j=g) w (.slice (some ⟨g,k,none⟩) (n+1) (n+1)) (Y6 o k n):=by
 refine⟨g,k,⟨_,n+1,by rw[Wb hk],by rw[Wb hk];omega,by unfold maxLen;omega,λ _=>rfl,λ _=>rfl⟩,λ j z hz=>⟨OU ho k n z (zP hz),?_⟩⟩;have y:=Zy hz;rw[Wb hk]at y;rw[hrow.cell (i:=k+j) (by omega)];show some (Value.int .u32 (dg o (k+j):Nat))=_;rw[<-TH (n:=n) y,Zi hz]
end
section
open Go.RowKit
def iv(f:Nat->Int):Nat->Value:=λ j=>.int .i64 (f j)
def tabA(f:Nat->Int):Array Value:=((List.range 201).map (iv f)).toArray
def XC(f:Nat->Int):Value:=.agg (tabA f)
theorem z4w(f:Nat->Int):(tabA f).size=201:=by simp[tabA]
theorem Q0(f:Nat->Int){i:Nat}(h:i<201):(tabA f)[i]? = some (iv f i):=by simp[tabA,h]
theorem z8(f:Nat->Int):(tabA f).all (·.oneCell')=true:=by
 refine Array.all_eq_true_iff_forall_mem.2 (λ v hv=>?_);simp only[tabA,List.mem_toArray,zG]at hv;obtain⟨j,_,rfl⟩:=hv;rfl
theorem QA{c:Array Value}{f:Nat->Int}(hs:c.size=201)(h:∀i,i<201->c[i]? = some (iv f i)):c=tabA f:=by
 apply vN
 intro i
 by_cases hi:i<201
 ·rw[h i hi,Q0 f hi]
 ·rw[wt (by omega),wt (by rw[z4w];omega)]
theorem Tryz.infoArr:(Tryz.prog.info? 169).map (λ i=>(i.zero,i.size))=some (some (.agg (tabA λ _=>0)),201):=by kernel_rfl
theorem Tryz.sizeArr:(Tryz.prog.info? 169).map (·.size)=some 201:=by kernel_rfl
theorem U_(f:Nat->Int)(w:World):(w.alloc (.cells (tabA f) 169)).rowIs w.heap.size 169 201 (iv f) :=
 ⟨tabA f,heap_alloc_new w _,z4w f,λ _i hi=>Q0 f hi⟩
section
variable {ops:Array Oper} {rest:List Oper} {op:Oper} {a:Act} {Q:Exit->Act->World->Prop}
theorem QO{W:World}{g:Nat}{f:Nat->Int}(hgd:op.guard=none)(x:Operand)(ho:op.op=.load 169 x)(hx:a.eval x=.pointer (some ⟨g,0,none⟩))(hrow:W.rowIs g 169 201 (iv f))
  (h:wpList Tryz.prog ops Q rest (a.put op.dst (XC f)) W):wpList Tryz.prog ops Q (op :: rest) a W:=by
 obtain⟨c,D,y,hi⟩:=hrow;obtain rfl:=QA y hi;refine wpList_plain hgd λ K hK=>?_;unfold Oper.wp execOp;have z:=run_loadVar_row (P:=Tryz.prog) W g 169 169 (tabA f) (0,0) _ D Tryz.underlying169 rfl (by rw[z4w];exact Tryz.sizeArr);simp only[ho,hx,Instr.loadAt,Instr.sureAddr,Sem.run_bind,Sem.run_pure,Result.andThen_ok,z];exact hK _ _ h
theorem Ux{W:World}{g:Nat}{f f0:Nat->Int}(hgd:op.guard=none)(x y:Operand)(ho:op.op=.store 169 x y)(hx:a.eval x=.pointer (some ⟨g,0,none⟩))(hy:a.eval y=XC f)(hrow:W.rowIs g 169 201 (iv f0))
  (h:∀W',W'.rowIs g 169 201 (iv f)->W.grownBy W' (some g)->wpList Tryz.prog ops Q rest (a.put op.dst undef) W'):wpList Tryz.prog ops Q (op :: rest) a W:=by
 obtain⟨c,z,D,hi⟩:=hrow;obtain rfl:=QA D hi;refine wpList_plain hgd λ K hK=>?_;unfold Oper.wp execOp;have I:=run_storeVar_row (P:=Tryz.prog) W g 169 169 (tabA f0) (tabA f) z (by rw[z4w];exact Tryz.sizeArr) (by rw[z4w,z4w]) (z8 f);unfold XC at hy;simp only[ho,hx,hy,Instr.storeAt,Instr.sureAddr,Sem.run_bind,Sem.run_pure,Result.andThen_ok,I]
 refine hK _ _ (h _ ⟨tabA f,?_,z4w f,λ i hi=>Q0 f hi⟩ ?_)
 ·have hg:=(yg.1 z).1;simp only[World.setRow,vZ];simp[z]
 ·refine⟨rfl,rfl,rfl,by simp[World.setRow],λ k hk hne=>?_⟩;simp only[World.setRow,vZ];rw[if_neg (λ e=>hne (by rw[e]))]
end
end
section
open Go.RowKit
theorem Pows.ext'{S:Nat->Prop}{w W:World}{v:Value}{zs:Z7}(h:Pows S w v zs)(hx:Ext w W)(hS:∀k,S k->k<w.heap.size):Pows S W v zs:=h.to (uM hx hS) (λ _ h=>h)
theorem Pows.cellAt{S:Nat->Prop}{w:World}{m:Z7}{a:Option Addr}{n cap k:Nat}{x:Int×Int}(h:Pows S w (.slice a n cap) m)(hx:m[k]? = some x) :
  ∃b off,a=some ⟨b,off,none⟩/\n=m.length/\n<=cap/\cap<=9223372036854775807/\S b /\
   ((-9223372036854775808<=x.1/\x.1<=9223372036854775807)/\-9223372036854775808<=x.2/\x.2<=9223372036854775807) /\
   w.cell? ⟨b,off+k*2,none⟩=some (.int .i64 x.1)/\w.cell? ⟨b,off+k*2+1,none⟩=some (.int .i64 x.2):=by
 obtain⟨b,off,⟨a',y,K,J,I,U,O⟩,z⟩:=h;obtain⟨rfl,rfl,rfl⟩:a=a'/\n=m.length/\cap=y:=by simpa using K
 have D:0<m.length:=by have:=Zy hx;omega
 exact⟨b,off,U D,rfl,J,I,O D,(z k x hx).1,(z k x hx).2.1,(z k x hx).2.2⟩
def z9l(m:Z7):Nat->Int
 |0=>0
 |k+1=>((m[k]?).map (·.1)).getD 0
theorem P7{S:Nat->Prop}(v:Value)(m:Z7)(w:World)(h:Pows S w v m)(hS:∀k,S k->k<w.heap.size) :
  Calls Tryz.prog 91 #[v] w λ e w'=>e=.returned (.bool (Z3 m))/\Ext w w':=by
 have hl:=h.len_le;have H:=Z_ h;obtain⟨a,cap,rfl⟩:=h.form;clear h
 go_enter Tryz.func91,Tryz.ntmps91
 go_wp2
 go_loopw [3] (λ i wr=>∃k:Nat,k<=m.length/\i=.int .i64 k/\Ext w wr/\Z3 m=z0d (z9l m k) (m.drop k)/\0<=z9l m k) (λ i _=>m.length-(intOf i).toNat)
 case atStart=>exact⟨0,zL _,rfl,uP _,rfl,by simp[z9l]⟩
 case round=>
  obtain⟨k,hk,rfl,J,hm,X⟩:=hrel
  by_cases ag:k<m.length
  ·obtain⟨t,ht⟩:=ZN ag;have hT:=Wh ht;rw[hT,z0d]at hm;have aa:z9l m (k+1)=t.1:=by simp[z9l,ht]
   obtain⟨b,off,rfl,-,hn1,hm1,hSb,⟨ah,af⟩,h1,h2⟩:=(H.o.ext' J hS).cellAt ht;have HM:=Z_ hm;have Z:=Z_ J;have D:=Z_ aa;obtain⟨x,z⟩:=t;simp only at h1 h2 ah af HM D;clear hm hT aa
   by_cases K:x<1∨200<x∨z<1∨10000<z
   ·have I:Hd (Z3 m=false):=Z_ (by
     rw[HM.o];have:¬ (z9l m k<x/\x<=200/\1<=z/\z<=10000):=by omega
     simp[this])
    clear J ht X;rcases K with g|g|g|g<;>go_wp2
    all_goals
     go_ret;exact⟨by rw[I.out];rfl,Z.o⟩
   ·have g1:1<=x:=by omega
    have g2:x<=200:=by omega
    have g3:1<=z:=by omega
    have g4:z<=10000:=by omega
    clear K ht X
    cases k with
    |zero=>
     simp only[yE,zp]at h1 h2
     have I:Hd (Z3 m=z0d (z9l m (0+1)) (m.drop (0+1))):=Z_ (by
      rw[HM.o,D.o];have:z9l m 0<x/\x<=200/\1<=z/\z<=10000:=⟨by show(0:Int)<x;omega,g2,g3,g4⟩
      simp[this])
     have U:Hd (0<=z9l m (0+1)):=Z_ (by rw[D.o];omega);clear J;go_wp2
     go_quiet (fail)
     go_wp2
     go_roundw
     case rel=>exact⟨0+1,by omega,by go_num,Z.o.drewN _,I.out,U.out⟩
     case measure=>simp only[intOf];omega
    |succ q=>
     obtain⟨y,hy⟩:=ZN (show q<m.length by omega);obtain⟨b',ac,ad,-,-,-,-,⟨al,aj⟩,h3,h4⟩:=(H.o.ext' J hS).cellAt hy;obtain⟨rfl,rfl⟩:b=b'/\off=ac:=by simpa using ad
     have ae:z9l m (q+1)=y.1:=by simp[z9l,hy]
     have O:=Z_ ae;obtain⟨u,t⟩:=y;simp only at h3 h4 al aj O;have hq1:((q:Nat):Int)+1-1=(q:Int):=by omega
     clear hy ad ae J
     by_cases ai:u<x
     ·have I:Hd (Z3 m=z0d (z9l m (q+1+1)) (m.drop (q+1+1))):=Z_ (by
       rw[HM.o,D.o];have:z9l m (q+1)<x/\x<=200/\1<=z/\z<=10000:=⟨by rw[O.o];exact ai,g2,g3,g4⟩
       simp[this])
      have U:Hd (0<=z9l m (q+1+1)):=Z_ (by rw[D.o];omega);have hd:decide (x<=u)=false:=decide_eq_false (by omega);go_wp2
      go_quiet (fail)
      go_wp2
      go_roundw
      case rel=>exact⟨q+1+1,by omega,by go_num,Z.o.drewN _,I.out,U.out⟩
      case measure=>simp only[intOf];omega
     ·have I:Hd (Z3 m=false):=Z_ (by
       rw[HM.o];have:¬ (z9l m (q+1)<x/\x<=200/\1<=z/\z<=10000):=by rw[O.o];omega
       simp[this])
      have hd:decide (x<=u)=true:=decide_eq_true (by omega);go_wp2
      go_quiet (fail)
      go_wp2
      all_goals
       go_ret;exact⟨by rw[I.out];rfl,Z.o.drewN _⟩
  ·obtain rfl:k=m.length:=by omega
   have Z:=Z_ J;have I:Hd (Z3 m=true):=Z_ (by rw[hm,xN];rfl);clear J hm X;go_wp2
   all_goals
    go_ret;exact⟨by rw[I.out];rfl,Z.o⟩
end
section
open Go.RowKit
def WA(m:Z7):Nat->Int:=λ v=>ex (z1s m) v
theorem LK{W:World}{g:Nat}{f:Nat->Int}(hrow:W.rowIs g 169 201 (iv f)):(loadVar 169 ⟨g,0,none⟩).run Tryz.prog W=.ok (XC f) W:=by
 obtain⟨c,hc,hs,hi⟩:=hrow;obtain rfl:=QA hs hi;exact run_loadVar_row (P:=Tryz.prog) W g 169 169 (tabA f) (0,0) _ hc Tryz.underlying169 rfl (by rw[z4w];exact Tryz.sizeArr)
theorem Ug{n k:Nat}(h:some n=some k):n<=k:=by
 cases h
 exact zR _
theorem O6{P:Program}{fn:Func}{tmps:Array Value}{t T g:Nat}{v:Value}{W:World}(hr:fn.results=#[.cell t T])(ht:tmps.getD t undef=.pointer (some ⟨g,0,none⟩))(hl:(loadVar T ⟨g,0,none⟩).run P W=.ok v W):(results fn tmps).run P W=.ok v W:=by
 have ht':tmps[t]?.getD undef=.pointer (some ⟨g,0,none⟩):=by rw[<-ht];simp
 simp[results,hr,ht',asAddr,hl]
theorem Nt{w W:World}{g:Nat}{f:Nat->Value}{T:TypeId}{n:Nat}{row:Option Nat}(h:w.rowIs g T n f)(hg:w.grownBy W row)(hne:some g≠row):W.rowIs g T n f:=by
 obtain⟨c,hc,hs,hi⟩:=h;exact⟨c,(hg.block g (yg.1 hc).1 hne).trans hc,hs,hi⟩
theorem Wl{w W:World}{g:Nat}{f:Nat->Value}{T:TypeId}{n:Nat}(h:w.rowIs g T n f)(hx:Ext w W):W.rowIs g T n f:=by
 obtain⟨c,hc,hs,hi⟩:=h;exact⟨c,(hx.block g (yg.1 hc).1).trans hc,hs,hi⟩
theorem Pb{w:World}{g:Nat}{f:Nat->Value}{T:TypeId}{n:Nat}{a:Addr}(h:w.rowIs g T n f)(hne:g≠a.block)(u:Value):(w.setCell a u).rowIs g T n f:=by
 obtain⟨c,hc,hs,hi⟩:=h;exact⟨c,(Below.heap_setCell w a u g hne).trans hc,hs,hi⟩
theorem World.rowIs.drewN'{w:World}{g n:Nat}{T:TypeId}{f:Nat->Value}(h:w.rowIs g T n f):w.drew.rowIs g T n f:=h
abbrev uk:=@World.rowIs.drewN'
theorem Kr{l:Z7}{x:Int×Int}{v:Int}(h:∀y∈l,y.1≠x.1):ex (l ++ [x]) v=if x.1=v then x.2 else ex l v:=by
 induction l with
 |nil=>rfl
 |cons y r I=>
  have I:=I (λ z hz=>h z (by simp[hz]));simp only[zc,ex,I]
  by_cases D:x.1=v
  ·have:¬ y.1=v:=λ e=>h y (by simp) (e.trans D.symm);simp[this,D]
  ·rw[if_neg D,if_neg D]
theorem DQ{last:Int}{m:Z7}(h:z0d last m=true):∀y∈m,last<y.1:=by
 induction m generalizing last with
 |nil=>intro y z;simp at z
 |cons x r ih=>
  simp only[z0d,zK,decide_eq_true_eq]at h;intro y z
  rcases zJ.1 z with rfl|z
  ·exact h.1.1
  ·have:=ih h.2 y z;omega
theorem NO{last:Int}{m:Z7}{k:Nat}{x:Int×Int}(h:z0d last m=true)(hx:m[k]? = some x):(∀y∈m.take k,y.1≠x.1)/\1<=x.2/\x.2<=10000/\last<x.1/\x.1<=200:=by
 induction m generalizing last k with
 |nil=>simp at hx
 |cons y r ih=>
  have h0:=DQ h;simp only[z0d,zK,decide_eq_true_eq]at h
  cases k with
  |zero=>
   obtain rfl:y=x:=by simpa using hx
   refine⟨λ z D=>by simp at D,?_⟩;omega
  |succ k=>
   have I:r[k]? = some x:=by simpa using hx
   obtain⟨O,K,J,h4,U⟩:=ih h.2 I;refine⟨λ z D=>?_,K,J,by omega,U⟩;rw[vU]at D
   rcases zJ.1 D with rfl|D
   ·omega
   ·exact O z D
theorem AM{m:Z7}{k:Nat}{x:Int×Int}(h:Z3 m=true)(hx:m[k]? = some x)(v:Int):ex (m.take (k+1)) v=if x.1=v then x.2 else ex (m.take k) v:=by
 rw[zv,hx];exact Kr (NO h hx).1
theorem T6{m:Z7}(h:Z3 m=true):z1s m=m:=by simp[z1s,h]
theorem JM{m:Z7}(h:Z3 m=false):z1s m=[]:=by simp[z1s,h]
theorem RK{S:Nat->Prop}(v:Value)(m:Z7)(w:World)(h:Pows S w v m)(hS:∀k,S k->k<w.heap.size) :
  Calls Tryz.prog 88 #[v] w λ e w'=>e=.returned (XC (WA m))/\Ext w w':=by
 have hz:=(zero_of_info Tryz.infoArr).1;have ae:(Value.agg (tabA λ _=>0)).cells=tabA λ _=>0:=rfl;have hnot:∀(x:Bool) (w:World),(Op.unary .not (.bool x)).run Tryz.prog w=.ok (.bool (!x)) w:=λ _ _=>rfl;have hl:=h.len_le;have H:=Z_ h;obtain⟨a,cap,rfl⟩:=h.form;clear h;have HK:=Z_ (uO (uO (uP w) (.cells (tabA λ _=>0) 169)) (.cells (tabA λ _=>0) 169));have al:=Z_ (Wl (U_ (λ _=>0) w) (uO (uP _) (.cells (tabA λ _=>0) 169)));have U:=U_ (λ _=>0) (w.alloc (.cells (tabA λ _=>0) 169));rw[z00]at U;have aj:=Z_ U;have HM:=Z_ (P7 _ m _ (H.o.ext' HK.o hS) (ZM hS HK.o));clear U
 go_enter Tryz.func88,Tryz.ntmps88
 go_wp2_with fail;refine HM.o.mono ?_;rintro e w1 ⟨rfl,I⟩;have aa:=Z_ I;have ad:=Z_ (Wl al.o I);have ac:=Z_ (Wl aj.o I);clear I
 cases hm:Z3 m with
 |false=>
  have HF:Hd (WA m=λ _=>0):=Z_ (by funext v;unfold WA;rw[JM hm];rfl);clear hm
  go_wp2_with (first
   |(refine QO rfl (.tmp 3) rfl rfl ac.o ?_)
   |(refine Ux rfl (.tmp 2) (.tmp 8) rfl rfl rfl ad.o ?_;intro W y X;have D:=Z_ y;have HG:=Z_ X;clear y X))
  have J:=LK D.o;refine bodyPost_ret (O6 Tryz.results88 rfl J) rfl ?_;exact⟨by rw[HF.o],YU (HK.o.trans aa.o) HG.o (λ k hk=>Ug hk)⟩
 |true=>
  have O:=Z_ hm;clear hm;obtain⟨wo,ai⟩:∃wo:World,wo=w1:=⟨_,rfl⟩
  subst ai;go_wp2
  go_loopw [4] (λ i wr=>∃k:Nat,k<=m.length/\i=.int .i64 k/\Hd (wr.rowIs (w.heap.size+1) 169 201 (iv (λ v=>ex (m.take k) v)))/\Hd (wr.rowIs w.heap.size 169 201 (iv λ _=>0))/\Ext w wr) (λ i _=>m.length-(intOf i).toNat)
  case atStart=>exact⟨0,zL _,rfl,ac,ad,HK.o.trans aa.o⟩
  case round=>
   obtain⟨k,hk,rfl,HA,HB,Z⟩:=hrel
   by_cases ag:k<m.length
   ·obtain⟨t,ht⟩:=ZN ag;obtain⟨b,off,rfl,-,hn1,hm1,aq,⟨ap,af⟩,h1,h2⟩:=(H.o.ext' Z hS).cellAt ht;obtain⟨_,g1,g2,g3,g4⟩:=NO O.o ht;have HT:=Z_ (λ v=>AM O.o ht v);have HX:=Z_ Z;have hbs:=hS b aq;obtain⟨x,z⟩:=t;simp only at h1 h2 ap af g1 g2 g3 g4 HT;obtain⟨x,rfl⟩:=Int.eq_ofNat_of_zero_le (Int.le_of_lt g3);have K:x<201:=by omega
    have ae:=HA.o.cell (i:=x) K;have hfs:=HA.o.frozen x;unfold iv at ae;have hxI0:(0:Int)<=(x:Int):=by omega
    have hxI1:(x:Int)<201:=by omega
    clear Z ht;go_wp2;have S0:wr.drew.cell? ⟨b,off+k*2,none⟩=some (.int .i64 (x:Nat))/\wr.drew.cell? ⟨b,off+k*2+1,none⟩=some (.int .i64 z):=⟨by simpa using h1,by simpa using h2⟩
    go_region_held3 (λ W=>W.cell? ⟨b,off+k*2,none⟩=some (.int .i64 (x:Nat))/\W.cell? ⟨b,off+k*2+1,none⟩=some (.int .i64 z)) (first|exact S0|exact⟨ZZ S0.1 (ab (by omega)),ZZ S0.2 (ab (by omega))⟩) (fail)
    go_wp2
    go_roundw
    case rel=>
     refine⟨k+1,by omega,by go_num,Z_ ?_,Z_ (Pb HB.o (by simp) _),(HX.o.drew).setCell (p:=⟨w.heap.size+1,x,none⟩) (by simp) _⟩;refine(World.rowIs.set (uk HA.o) x (.int .i64 z)).congr (λ i hi=>?_);show(if i=x then Value.int .i64 z else Value.int .i64 (ex (m.take k) (i:Nat)))=Value.int .i64 (ex (m.take (k+1)) (i:Nat));rw[HT.o]
     by_cases e:i=x
     ·subst e;simp
     ·have:¬ ((x:Int)=(i:Int)):=λ h=>e (by omega);simp[e,this]
    case measure=>simp only[intOf];omega
   ·obtain rfl:k=m.length:=by omega
    have HX:=Z_ Z;have HF:Hd ((λ v:Nat=>ex (m.take m.length) v)=WA m):=Z_ (by funext v;unfold WA;rw[T6 O.o,yW]);have hA:=HA.o;rw[HF.o]at hA;have ah:=Z_ hA;clear Z hA
    go_wp2_with (first
     |(refine QO rfl (.tmp 3) rfl rfl ah.o ?_)
     |(refine Ux rfl (.tmp 2) (.tmp 26) rfl rfl rfl HB.o ?_;intro W y X;have D:=Z_ y;have HG:=Z_ X;clear y X))
    have J:=LK D.o;refine bodyPost_ret (O6 Tryz.results88 rfl J) rfl ?_;exact⟨rfl,YU HX.o HG.o (λ k hk=>Ug hk)⟩
end
section
open Go.RowKit
def XQ(a b:Z7):Int:=cmpE (ex (z1s a)) (ex (z1s b)) 200
theorem B3{a b:Z7}(ha:Z3 a=true)(hb:Z3 b=true):XQ a b=Zs a b:=by
 unfold XQ;rw[T6 ha,T6 hb,V_ ha hb]
theorem IU{S:Nat->Prop}(va vb:Value)(a b:Z7)(w:World)(ha:Pows S w va a)(hb:Pows S w vb b)(hS:∀k,S k->k<w.heap.size) :
  Calls Tryz.prog 47 #[va,vb] w λ e w'=>e=.returned (.int .i64 (XQ a b))/\Ext w w':=by
 have hz:=(zero_of_info Tryz.infoArr).1;have hcs:(Value.agg (tabA λ _=>0)).cells=tabA λ _=>0:=rfl;have HA:=Z_ ha;have HB:=Z_ hb;obtain⟨aa,ca,rfl⟩:=ha.form;obtain⟨ab1,cb,rfl⟩:=hb.form;clear ha hb
 go_enter Tryz.func47,Tryz.ntmps47
 go_wp2_with fail;refine(RK _ a w HA.o hS).mono ?_;rintro e w1 ⟨rfl,al⟩;have ah:=Z_ al;clear al;go_wp2_with (refine Ux rfl (.tmp 5) (.tmp 9) rfl rfl rfl (U_ (λ _=>0) w1) ?_;intro w2 y hg;have ad:=Z_ y;have HG:=Z_ hg;clear y hg);have Z:Hd (Ext w w2):=Z_ (YU (ah.o.alloc _) HG.o (λ k hk=>zT ah.o.size (Ug hk)));refine(RK _ b w2 (HB.o.ext' Z.o hS) (ZM hS Z.o)).mono ?_;rintro e w3 ⟨rfl,J⟩;have ag:=Z_ (Z.o.trans J)
 have af:w1.heap.size<w2.heap.size:=by
  have:=HG.o.size;rw[z00]at this;omega
 have au:Hd (w1.heap.size<w3.heap.size):=Z_ (zU af J.size);have K:=Z_ (Wl ad.o J);clear J af;go_wp2_with (refine Ux rfl (.tmp 6) (.tmp 11) rfl rfl rfl (U_ (λ _=>0) w3) ?_;intro w4 y hg;have I:=Z_ y;have ac:=Z_ hg;clear y hg);have U:Hd (Ext w w4):=Z_ (YU (ag.o.alloc _) ac.o (λ k hk=>zT ag.o.size (Ug hk)))
 have z:Hd (w4.rowIs w1.heap.size 169 201 (iv (WA a))):=Z_ (Nt (Wl K.o (uO (uP _) _)) ac.o (λ e=>by
  have:=au.o;have h1:w1.heap.size=w3.heap.size:=by simpa using e
  omega))
 obtain⟨ga,aj⟩:∃g,g=w1.heap.size:=⟨_,rfl⟩
 obtain⟨gb,ai⟩:∃g,g=w3.heap.size:=⟨_,rfl⟩
 rw[<-aj]at z⊢;rw[<-ai]at I⊢;clear aj ai
 go_loopw [7] (λ v wr=>∃k:Nat,k<=200/\v=.int .i64 k/\Ext w4 wr/\XQ a b=cmpE (ex (z1s a)) (ex (z1s b)) k) (λ v _=>(intOf v).toNat)
 case atStart=>exact⟨200,by omega,rfl,uP _,rfl⟩
 case round=>
  obtain⟨k,hk,rfl,hx,hc⟩:=hrel;have HX:=Z_ hx
  by_cases h0:1<=k
  ·have D:k<201:=by omega
   have ar:=(Wl z.o hx).cell (i:=k) D;have ap:=(Wl I.o hx).cell (i:=k) D;unfold iv WA at ar ap;obtain⟨q,hq⟩:∃q,k=q+1:=⟨k-1,by omega⟩
   have ae:cmpE (ex (z1s a)) (ex (z1s b)) k=if ex (z1s a) (k:Nat)=ex (z1s b) (k:Nat) then cmpE (ex (z1s a)) (ex (z1s b)) q else cmpI (ex (z1s a) (k:Nat)) (ex (z1s b) (k:Nat)):=by
    rw[hq];rfl
   rw[ae]at hc;have HC:=Z_ hc;have HQ:=Z_ hq;clear hx hc ae hq;generalize ex (z1s a) (k:Nat)=p at *;generalize ex (z1s b) (k:Nat)=t at *;have hkI0:(0:Int)<=(k:Int):=by omega
   have hkI1:(k:Int)<201:=by omega
   rcases(show p<t∨t<p∨p=t by omega) with X|X|aq
   ·have O:Hd (XQ a b = -1):=Z_ (by rw[HC.o,if_neg (by omega),WN];exact X);go_wp2
    go_quiet (fail)
    go_wp2
    all_goals
     go_ret;exact⟨by rw[O.o];rfl,U.o.trans (HX.o.drewN _)⟩
   ·have O:Hd (XQ a b=1):=Z_ (by rw[HC.o,if_neg (by omega),Wi];exact X);have hd:decide (p<t)=false:=decide_eq_false (by omega);go_wp2
    go_quiet (fail)
    go_wp2
    go_quiet (fail)
    go_wp2
    all_goals
     go_ret;exact⟨by rw[O.o];rfl,U.o.trans ((HX.o.drewN _).drewN _)⟩
   ·subst aq;have O:Hd (XQ a b=cmpE (ex (z1s a)) (ex (z1s b)) q):=Z_ (by rw[HC.o,if_pos rfl]);go_wp2
    go_quiet (fail)
    go_wp2
    go_quiet (fail)
    go_wp2
    go_roundw
    case rel=>exact⟨q,by have:=HQ.o;omega,congrArg (Value.int .i64) (by have:=HQ.o;omega),HX.o.drewN _,O.o⟩
    case measure=>simp only[intOf];omega
  ·obtain rfl:k=0:=by omega
   have O:Hd (XQ a b=0):=Z_ (by rw[hc];rfl);clear hx hc;go_wp2
   all_goals
    go_ret;exact⟨by rw[O.o];rfl,U.o.trans HX.o⟩
end
section
open Go.RowKit
def ofE(f:Nat->Int):Nat->Z7
 |0=>[]
 |k+1=>if 0<f (k+1) then ofE f k ++ [(((k+1:Nat):Int),f (k+1))] else ofE f k
theorem Bn(f:Nat->Int)(k:Nat):(ofE f k).length<=k:=by
 induction k with
 |zero=>simp[ofE]
 |succ k ih=>
  simp only[ofE]
  split
  ·simp only[zI,zM,zo];omega
  ·omega
theorem Km{f:Nat->Int}(h:∀j,0<=f j/\f j<=1000000)(k:Nat)(hk:k<=200):inBounds (ofE f k):=by
 induction k with
 |zero=>intro x y;simp[ofE]at y
 |succ k z=>
  have z:=z (by omega);simp only[ofE]
  split
  ·intro x y
   rcases zC.1 y with y|y
   ·exact z x y
   ·obtain rfl:=zQ.1 y;have:=h (k+1);unfold Zv;simp only;omega
  ·exact z
theorem JN{u v:Value}(h:u.oneCell'=true)(k:v.oneCell'=true):∀x∈(#[u,v]:Array Value).toList,x.oneCell'=true:=by
 intro x hx;simp at hx;rcases hx with rfl|rfl<;>assumption
theorem Hq(f:Nat->Int)(w:World)(hf:∀j,0<=f j/\f j<=1000000) :
  Calls Tryz.prog 92 #[XC f] w λ e w'=>∃v',e=.returned v'/\Pows (New w w') w' v' (ofE f 200)/\Ext w w':=by
 have HK:=Z_ (uO (uP w) (.cells (tabA f) 169));have K:=Z_ (U_ f w);have HF:=Z_ hf;clear hf;unfold XC
 go_enter Tryz.func92,Tryz.ntmps92
 go_wp2
 go_loopw [3,4] (λ o v wr=>∃k:Nat,k<=200/\v=.int .i64 ((k:Int)+1)/\Ext (w.alloc (.cells (tabA f) 169)) wr/\Hd (wr.ownsRow (w.heap.size+1) 56 2 o (ofE f k).length (YC (ofE f k)))) (λ _ v _=>(201-intOf v).toNat)
 case atStart=>exact⟨0,by omega,rfl,uP _,Z_ (World.ownsRow_nil _ _ _ _)⟩
 case round=>
  obtain⟨k,hk,rfl,I,HW⟩:=hrel;have HX:=Z_ I
  by_cases h0:k<200
  ·obtain⟨q,hq⟩:∃q,q=k+1:=⟨_,rfl⟩
   have aa:(k:Int)+1=(q:Int):=by omega
   have D:q<201:=by omega
   have Z:=(Wl K.o I).cell (i:=q) D;unfold iv at Z;obtain⟨p,hp⟩:∃p,p=f q:=⟨_,rfl⟩
   have J:=HF.o q;rw[<-hp]at Z J;obtain⟨hp1,hp2⟩:=J;have HP:=Z_ hp;have HQ:=Z_ hq;have hq1:1<=q:=by omega
   have hq2:q<=200:=by omega
   have O:ofE f q=if 0<p then ofE f k ++ [((q:Int),p)] else ofE f k:=by rw[hq,hp,hq];rfl
   have U:=Z_ O;have ae:(ofE f k).length<=1000000000:=zT (Bn f k) (by omega);have X:w.heap.size+1<=wr.heap.size:=by have:=I.size;rw[z00]at this;exact this
   have ad:=Z_ X;rw[aa];clear I hp hq O X
   by_cases z:0<p
   ·go_wp2_with (at_builtin;refine XK _ rfl (.tmp 13) (.tmp 19) 52 rfl (w.heap.size+1) 56 (.agg #[.int .i64 0,.int .i64 0]) 2 16 Tryz.underlying52 uu rfl (by decide) _ (ofE f k).length (YC (ofE f k)) rfl HW.o _ rfl (JN rfl rfl) rfl ae (by decide) ad.o ?_;intro v1 w1 y hg _;have ac:=Z_ y;have HG:=Z_ hg;clear y hg)
    go_roundw
    case rel=>
     refine⟨q,by omega,rfl,YU HX.o HG.o (λ j hj=>?_),Z_ ?_⟩
     ·have:=(HW.o.lt j hj).1;rw[z00];exact this
     ·rw[U.o,if_pos z,z63];have h1:=ac.o;simpa[YC]using h1
    case measure=>simp only[intOf];omega
   ·go_wp2
    go_roundw
    case rel=>exact⟨q,by omega,rfl,HX.o,Z_ (by rw[U.o,if_neg z];exact HW.o)⟩
    case measure=>simp only[intOf];omega
  ·obtain rfl:k=200:=by omega
   have hb:=Km HF.o 200 (zR _);have HP:=Z_ (Ut HW.o hb);clear I hb;go_wp2
   all_goals
    go_ret;refine⟨_,rfl,HP.o.to (uN _ _) (λ j hj=>⟨by have:=hj.1;omega,hj.2⟩),HK.o.trans HX.o⟩
end
section
open Go.RowKit
def YS(a b:Z7):Nat->Int:=λ v=>ex a (v:Nat)+ex b (v:Nat)
def z7b(f:Nat->Int):Nat->Bool
 |0=>false
 |k+1=>z7b f k || decide (10000<f (k+1))
def XD(a b:Z7):Option Z7:=if z7b (YS a b) 200 then none else some (ofE (YS a b) 200)
theorem EF{f:Nat->Int}{k n:Nat}(h:z7b f k=true)(hk:k<=n):z7b f n=true:=by
 induction n with
 |zero=>
  obtain rfl:k=0:=by omega
  exact h
 |succ n ih=>
  by_cases e:k=n+1
  ·subst e;exact h
  ·simp only[z7b,ih (by omega),Bool.true_or]
theorem AV{f g:Nat->Int}{n:Nat}(h:∀k,1<=k->k<=n->f k=g k):ofE f n=ofE g n:=by
 induction n with
 |zero=>rfl
 |succ n ih=>simp only[ofE,h (n+1) (by omega) (zR _),ih (λ k h1 h2=>h k h1 (by omega))]
def YD(a b:Z7)(k:Nat):Nat->Int:=λ j=>if 1<=j/\j<=k then ex a (j:Nat)+ex b (j:Nat) else ex a (j:Nat)
theorem G8{a b:Z7}{k:Nat}(h:z7b (YS a b) k=true)(hk:k<=200):XD a b=none:=by
 unfold XD;rw[if_pos (EF h hk)]
theorem KN{a b:Z7}(h:z7b (YS a b) 200=false):XD a b=some (ofE (YD a b 200) 200):=by
 unfold XD;rw[if_neg (by rw[h];exact wE)]
 exact congrArg some (AV (λ k h1 h2=>by
  unfold YS YD
  rw[if_pos ⟨h1,h2⟩]))
def Qi:Option Z7->Int
 |none=>8
 |some _=>0
def QB:Option Z7->Z7
 |none=>[]
 |some m=>m
theorem Dp(f:Nat->Int):z7b f 0=false:=rfl
theorem Hh(a b:Z7)(k:Nat):z7b (YS a b) (k+1)=(z7b (YS a b) k || decide (10000<ex a ((k+1:Nat):Int)+ex b ((k+1:Nat):Int))):=rfl
attribute [local irreducible] ofE z7b XD
theorem B7{S:Nat->Prop}(va vb:Value)(a b:Z7)(w:World)(ha:Pows S w va a)(hb:Pows S w vb b)(hS:∀k,S k->k<w.heap.size)(hma:Z3 a=true)(hmb:Z3 b=true) :
  Calls Tryz.prog 51 #[va,vb] w λ e w'=>∃v',e=.returned (.tuple #[v',.int .i64 (Qi (XD a b))])/\Pows (New w w') w' v' (QB (XD a b))/\Ext w w':=by
 have hz:=(zero_of_info Tryz.infoArr).1;have hcs:(Value.agg (tabA λ _=>0)).cells=tabA λ _=>0:=rfl;have hnot:∀(x:Bool) (w:World),(Op.unary .not (.bool x)).run Tryz.prog w=.ok (.bool (!x)) w:=λ _ _=>rfl;have HA:=Z_ ha;have HB:=Z_ hb;obtain⟨aa,ca,rfl⟩:=ha.form;obtain⟨ab1,cb,rfl⟩:=hb.form;have av:=Z_ hma;have au:=Z_ hmb;have M1:=λ W (hW:Ext w W)=>P7 (S:=S) _ a W (HA.o.ext' hW hS) (ZM hS hW);rw[hma]at M1;have M2:=λ W (hW:Ext w W)=>P7 (S:=S) _ b W (HB.o.ext' hW hS) (ZM hS hW);rw[hmb]at M2;have EA:Hd (WA a=λ v=>ex a (v:Nat)):=Z_ (by funext v;unfold WA;rw[T6 hma]);have EB:Hd (WA b=λ v=>ex b (v:Nat)):=Z_ (by funext v;unfold WA;rw[T6 hmb]);have ba:=Z_ M1;have a7:=Z_ M2;obtain⟨R,hR⟩:∃R,R=XD a b:=⟨_,rfl⟩
 rw[<-hR];have HR:=Z_ hR;clear ha hb hma hmb M1 M2 hR
 go_enter Tryz.func51,Tryz.ntmps51
 go_wp2_with fail;refine(ba.o w (uP _)).mono ?_;rintro e w1 ⟨rfl,aP⟩;have ar:=Z_ aP;clear aP;go_wp2_with fail;refine(a7.o w1 ar.o).mono ?_;rintro e w2 ⟨rfl,aq⟩;have ag:=Z_ (ar.o.trans aq);clear aq;go_wp2_with fail;refine(RK _ a w2 (HA.o.ext' ag.o hS) (ZM hS ag.o)).mono ?_;rintro e w3 ⟨rfl,a4⟩;have ae:=Z_ (ag.o.trans a4);clear a4;rw[EA.o];go_wp2_with (refine Ux rfl (.tmp 6) (.tmp 18) rfl rfl rfl (U_ (λ _=>0) w3) ?_;intro w4 z hg;have aA:=Z_ z;have HG:=Z_ hg;clear z hg);have ah:Hd (Ext w w4):=Z_ (YU (ae.o.alloc _) HG.o (λ k hk=>zT ae.o.size (Ug hk)));refine(RK _ b w4 (HB.o.ext' ah.o hS) (ZM hS ah.o)).mono ?_;rintro e w5 ⟨rfl,U⟩;have aF:=Z_ (ah.o.trans U)
 have aB:w3.heap.size<w4.heap.size:=by
  have:=HG.o.size;rw[z00]at this;omega
 have aN:Hd (w3.heap.size<w5.heap.size):=Z_ (zU aB U.size);have al:=Z_ (Wl aA.o U);clear U aB;rw[EB.o];go_wp2_with (refine Ux rfl (.tmp 7) (.tmp 20) rfl rfl rfl (U_ (λ _=>0) w5) ?_;intro w6 z hg;have J:=Z_ z;have az:=Z_ hg;clear z hg);have a9:Hd (Ext w w6):=Z_ (YU (aF.o.alloc _) az.o (λ k hk=>zT aF.o.size (Ug hk)))
 have K:Hd (w6.rowIs w3.heap.size 169 201 (iv (YD a b 0))):=Z_ (by
  have h1:=Nt (Wl al.o (uO (uP _) _)) az.o (λ e=>by
   have:=aN.o;have h1:w3.heap.size=w5.heap.size:=by simpa using e
   omega)
  have e:YD a b 0=λ v:Nat=>ex a (v:Nat):=by
   funext j
   unfold YD;rw[if_neg (by omega)]
  rw[e]
  exact h1)
 obtain⟨ga,Z⟩:∃g,g=w3.heap.size:=⟨_,rfl⟩
 obtain⟨gb,af⟩:∃g,g=w5.heap.size:=⟨_,rfl⟩
 have aS:ga≠gb:=by
  rw[Z,af];have:=aN.o;omega
 have a0:Hd (w.heap.size<=ga):=Z_ (by rw[Z];exact ae.o.size);rw[<-Z]at K⊢;rw[<-af]at J⊢;clear Z af
 go_loopw [8] (λ v wr=>∃k:Nat,k<=200/\v=.int .i64 ((k:Int)+1)/\Ext w wr/\Hd (wr.rowIs ga 169 201 (iv (YD a b k)))/\Hd (wr.rowIs gb 169 201 (iv λ v=>ex b (v:Nat)))/\Hd (z7b (YS a b) k=false)) (λ v _=>(201-intOf v).toNat)
 case atStart=>exact⟨0,by omega,rfl,a9.o,K,J,Z_ (Dp _)⟩
 case round=>
  obtain⟨k,hk,rfl,hx,HP,HQ,HO⟩:=hrel;have HX:=Z_ hx
  by_cases h0:k<200
  ·obtain⟨q,hq⟩:∃q,q=k+1:=⟨_,rfl⟩
   have bn:(k:Int)+1=(q:Int):=by omega
   have I:q<201:=by omega
   have aj:=HP.o.cell (i:=q) I;have bl:wr.cell? ⟨gb,q,none⟩=some (.int .i64 (ex b (q:Nat))):=HQ.o.cell (i:=q) I;have hfa:=HP.o.frozen q;have ay:YD a b k q=ex a (q:Nat):=by unfold YD;rw[if_neg (by omega)]
   unfold iv at aj;rw[ay]at aj;obtain⟨x,X⟩:∃x,x=ex a (q:Nat):=⟨_,rfl⟩
   obtain⟨y,O⟩:∃y,y=ex b (q:Nat):=⟨_,rfl⟩
   have a5:=X6 av.o (q:Nat);have aH:=X6 au.o (q:Nat);rw[<-X]at aj a5;rw[<-O]at bl aH;obtain⟨hxr1,hxr2⟩:=a5;obtain⟨hyr1,hyr2⟩:=aH;have ai:z7b (YS a b) q=(z7b (YS a b) k || decide (10000<x+y)):=by rw[hq,X,O,hq];exact Hh a b k
   rw[HO.o,vF]at ai;have aR:=Z_ ai;have a6:=Z_ hq;have aC:=Z_ X;have aG:=Z_ O;have ax:1<=q:=by omega
   have bm:q<=200:=by omega
   have hqI0:(0:Int)<=(q:Int):=by omega
   have hqI1:(q:Int)<201:=by omega
   rw[bn];clear hx hq ay X O ai;go_wp2
   go_still_tail 9,(by kernel_rfl)
   change wpList _ _ _ _ _ wr.drew;have ap:=World.rowIs.set (uk HP.o) q (.int .i64 (x+y))
   have D:(wr.drew.setCell ⟨ga,q,none⟩ (.int .i64 (x+y))).rowIs ga 169 201 (iv (YD a b q)):=ap.congr (λ i hi=>by
    unfold iv YD
    by_cases e:i=q
    ·subst e;rw[if_pos rfl,if_pos ⟨ax,zR _⟩,<-aC.o,<-aG.o]
    ·rw[if_neg e];have:=a6.o
     by_cases e2:1<=i/\i<=k
     ·rw[if_pos e2,if_pos (by omega)]
     ·rw[if_neg e2,if_neg (by omega)])
   have bg:=Z_ D;have ad:=D.cell (i:=q) I;unfold iv YD at ad;rw[if_pos ⟨ax,zR _⟩,<-aC.o,<-aG.o]at ad;clear ap D
   by_cases ac:10000<x+y
   ·have bs:Hd (R=none):=Z_ (HR.o.trans (G8 (by rw[aR.o];exact decide_eq_true ac) bm));go_wp2
    all_goals
     go_ret2;rw[bs.o];refine⟨_,rfl,uB _ _ _,(HX.o.drew).setCell (p:=⟨ga,q,none⟩) a0.o _⟩
   ·go_wp2
    go_roundw
    case rel=>exact⟨q,by omega,rfl,(HX.o.drew).setCell (p:=⟨ga,q,none⟩) a0.o _,bg,Z_ (Pb (uk HQ.o) (λ e=>aS e.symm) _),Z_ (by rw[aR.o];exact decide_eq_false ac)⟩
    case measure=>simp only[intOf];omega
  ·obtain rfl:k=200:=by omega
   have a8:=Z_ (HR.o.trans (KN HO.o))
   have a2:=Hq (YD a b 200) wr (λ j=>by
    have h1:=X6 av.o (j:Nat);have h2:=X6 au.o (j:Nat);unfold YD
    split<;>omega)
   have bf:=Z_ a2;clear hx a2;go_wp2_with (refine QO rfl (.tmp 6) rfl rfl HP.o ?_);refine bf.o.mono ?_;rintro e w7 ⟨v7,rfl,hp,a3⟩;have bt:=Z_ a3;have bb:=Z_ hp;clear hp a3;go_wp2
   all_goals
    go_ret2;rw[a8.o];exact⟨_,rfl,bb.o.to (uN _ _) (uq HX.o),HX.o.trans bt.o⟩
end
section
open Go.RowKit
def zcp(S:Nat->Prop)(w:World)(v:Value)(t:RTerm):Prop:=∃vm vo,v=.agg #[.bool t.c.neg,vm,vo]/\U32s S w vm t.c.mag/\Pows S w vo t.m
theorem zcp.to{S S':Nat->Prop}{w w':World}{v:Value}{r:RTerm}(h:zcp S w v r)(hk:Kept S w w')(hS:∀k,S k->S' k):zcp S' w' v r:=by
 obtain⟨vm,vo,h1,h2,h3⟩:=h;exact⟨vm,vo,h1,h2.to hk hS,h3.to hk hS⟩
theorem New.kept{a w W:World}(hx:Ext w W):Kept (New a w) w W:=uM hx (λ _ h=>h.2)
theorem New.grow{a w W:World}(hx:Ext w W):∀k,New a w k->New a W k:=λ _ h=>⟨h.1,zU h.2 hx.size⟩
theorem TV{w:World}{b:Nat}{u0 u1 u2:Value}(x y z:Value)(c0:w.cell? ⟨b,0,none⟩=some u0)(c1:w.cell? ⟨b,1,none⟩=some u1)(c2:w.cell? ⟨b,2,none⟩=some u2) :
  (((w.setCell ⟨b,0,none⟩ x).setCell ⟨b,1,none⟩ y).setCell ⟨b,2,none⟩ z).cell? ⟨b,0,none⟩=some x/\(((w.setCell ⟨b,0,none⟩ x).setCell ⟨b,1,none⟩ y).setCell ⟨b,2,none⟩ z).cell? ⟨b,1,none⟩=some y /\
  (((w.setCell ⟨b,0,none⟩ x).setCell ⟨b,1,none⟩ y).setCell ⟨b,2,none⟩ z).cell? ⟨b,2,none⟩=some z :=
 ⟨ZZ (ZZ (YT c0) (ao (by decide))) (ao (by decide)),ZZ (YT (ZZ c1 (ao (by decide)))) (ao (by decide)),YT (ZZ (ZZ c2 (ao (by decide))) (ao (by decide)))⟩
theorem Ext.set3{a w:World}(h:Ext a w){b:Nat}(hb:a.heap.size<=b)(x y z:Value):Ext a (((w.setCell ⟨b,0,none⟩ x).setCell ⟨b,1,none⟩ y).setCell ⟨b,2,none⟩ z) :=
 (h.set2 hb x y).setCell (p:=⟨b,2,none⟩) hb z
theorem Kept.set3{S:Nat->Prop}{w:World}{b:Nat}(h:¬ S b)(x y z:Value):Kept S w (((w.setCell ⟨b,0,none⟩ x).setCell ⟨b,1,none⟩ y).setCell ⟨b,2,none⟩ z) :=
 (ur h x y).trans (uH (a:=⟨b,2,none⟩) h z)
abbrev ux:=@Kept.set3
theorem UT{w:World}{b:Nat}(x y z:Value):(((w.setCell ⟨b,0,none⟩ x).setCell ⟨b,1,none⟩ y).setCell ⟨b,2,none⟩ z).heap.size=w.heap.size:=by rw[z03,z2m]
theorem Hu{w:World}{b c i j k:Nat}{u0 u1 u2:Value}(h:w.cell? ⟨c,i,none⟩=some u0/\w.cell? ⟨c,j,none⟩=some u1/\w.cell? ⟨c,k,none⟩=some u2)(hne:b≠c)(x y z:Value) :
  (((w.setCell ⟨b,0,none⟩ x).setCell ⟨b,1,none⟩ y).setCell ⟨b,2,none⟩ z).cell? ⟨c,i,none⟩=some u0/\(((w.setCell ⟨b,0,none⟩ x).setCell ⟨b,1,none⟩ y).setCell ⟨b,2,none⟩ z).cell? ⟨c,j,none⟩=some u1 /\
  (((w.setCell ⟨b,0,none⟩ x).setCell ⟨b,1,none⟩ y).setCell ⟨b,2,none⟩ z).cell? ⟨c,k,none⟩=some u2 :=
 ⟨ZZ (ZZ (ZZ h.1 (ab hne)) (ab hne)) (ab hne),ZZ (ZZ (ZZ h.2.1 (ab hne)) (ab hne)) (ab hne),ZZ (ZZ (ZZ h.2.2 (ab hne)) (ab hne)) (ab hne)⟩
def X7(t:RTerm):RTerm:=⟨Z8 (Z6 t.c),t.m⟩
theorem Qq(S:Nat->Prop)(w:World):IntV S w (.agg #[.bool false,.slice none 0 0]) ⟨false,[]⟩:=⟨_,rfl,ul _ _ _ _ (by omega)⟩
theorem zaw:Z6 ⟨false,[]⟩=0:=rfl
theorem MK{w0 w1 w2:World}{b:Nat}{v:Value}{t:RTerm}(hv:zcp (New w1 w2) w2 v t)(h01:Ext w0 w1)(h12:Ext w1 w2)(hb0:w0.heap.size<=b)(hb1:b<w1.heap.size)(x y z:Value) :
  zcp (New w0 (((w2.setCell ⟨b,0,none⟩ x).setCell ⟨b,1,none⟩ y).setCell ⟨b,2,none⟩ z)) (((w2.setCell ⟨b,0,none⟩ x).setCell ⟨b,1,none⟩ y).setCell ⟨b,2,none⟩ z) v t/\Ext w0 (((w2.setCell ⟨b,0,none⟩ x).setCell ⟨b,1,none⟩ y).setCell ⟨b,2,none⟩ z):=by
 refine⟨hv.to (ux (λ h=>?_) _ _ _) (λ k hk=>⟨zT h01.size hk.1,?_⟩),(h01.trans h12).set3 hb0 _ _ _⟩
 ·have:=h.1;omega
 ·rw[UT];exact hk.2
theorem AA{w0 w1 w2:World}{vm vo:Value}{ng:Bool}{zs:List Nat}{m:Z7}(h1:U32s (New w0 w1) w1 vm zs)(x2:Ext w1 w2)(h2:Pows (New w1 w2) w2 vo m)(x1:Ext w0 w1):zcp (New w0 w2) w2 (.agg #[.bool ng,vm,vo]) ⟨⟨ng,zs⟩,m⟩ :=
 ⟨_,_,rfl,h1.to (New.kept x2) (New.grow x2),h2.to (uN _ _) (uq x1)⟩
theorem GV{S:Nat->Prop}(v:Value)(t:RTerm)(w:World)(h:zcp S w v t)(hS:∀k,S k->k<w.heap.size)(hr:t.c.mag.length<=40000000000000)(hm:t.m.length<=1000000) :
  Calls Tryz.prog 95 #[v] w λ e w'=>∃v',e=.returned v'/\zcp (New w w') w' v' (X7 t)/\Ext w w':=by
 obtain⟨⟨ng,I⟩,m⟩:=t;obtain⟨vm,vo,rfl,hu,hp⟩:=h;simp only at hu hp hr hm⊢;have HU:=Z_ hu;have HP:=Z_ hp;obtain⟨am,U,rfl⟩:=hu.form;obtain⟨ao,O,rfl⟩:=hp.form;clear hu hp;have HK:=Z_ (uO (uO (uP w) (.cells #[.bool ng,.slice am I.length U,.slice ao m.length O] 54)) (.cells #[.bool false,.slice none 0 0,.slice none 0 0] 54));have af:Hd (w.heap.size+1<((w.alloc (.cells #[.bool ng,.slice am I.length U,.slice ao m.length O] 54)).alloc (.cells #[.bool false,.slice none 0 0,.slice none 0 0] 54)).heap.size):=Z_ (by simp)
 have HL:Hd (∀W,Ext ((w.alloc (.cells #[.bool ng,.slice am I.length U,.slice ao m.length O] 54)).alloc (.cells #[.bool false,.slice none 0 0,.slice none 0 0] 54)) W ->
   W.cell? ⟨w.heap.size,0,none⟩=some (.bool ng)/\W.cell? ⟨w.heap.size,1,none⟩=some (.slice am I.length U)/\W.cell? ⟨w.heap.size,2,none⟩=some (.slice ao m.length O)):=Z_ (λ W hW=>by
  have e1:Ext (w.alloc (.cells #[.bool ng,.slice am I.length U,.slice ao m.length O] 54)) W:=(uO (uP _) _).trans hW
  exact⟨e1.new_cell rfl,e1.new_cell rfl,e1.new_cell rfl⟩)
 have HN:Hd (∀W,Ext ((w.alloc (.cells #[.bool ng,.slice am I.length U,.slice ao m.length O] 54)).alloc (.cells #[.bool false,.slice none 0 0,.slice none 0 0] 54)) W ->
   W.cell? ⟨w.heap.size+1,0,none⟩=some (.bool false)/\W.cell? ⟨w.heap.size+1,1,none⟩=some (.slice none 0 0)/\W.cell? ⟨w.heap.size+1,2,none⟩=some (.slice none 0 0)/\∀i,W.frozen? ⟨w.heap.size+1,i,none⟩=false):=Z_ (λ W hW=>by
  have k:=λ i v hv=>hW.new_cell (i:=i) (v:=v) hv;have f:=λ i=>hW.new_free i;rw[z00]at k f
  exact⟨k 0 _ rfl,k 1 _ rfl,k 2 _ rfl,f⟩)
 go_enter Tryz.func95,Tryz.ntmps95
 go_wp2
 go_outline
 have x0:=uI (uP ((w.alloc (.cells #[.bool ng,.slice am I.length U,.slice ao m.length O] 54)).alloc (.cells #[.bool false,.slice none 0 0,.slice none 0 0] 54)));have S0:=HL.o _ x0;have D:=Z_ x0;clear x0
 go_region_held3 (λ W=>W.cell? ⟨w.heap.size,0,none⟩=some (.bool ng)/\W.cell? ⟨w.heap.size,1,none⟩=some (.slice am I.length U)/\W.cell? ⟨w.heap.size,2,none⟩=some (.slice ao m.length O)) (first|exact S0|exact S1|exact S2|exact Hu S2 (by omega) _ _ _)
  (first
   |(go_at_call 61;(with_reducible refine(TI _ _ ⟨ng,I⟩ ⟨false,[]⟩ _ (XS (HU.o.ext (HK.o.trans D.o) hS)) (Qq _ _) (ZM hS (HK.o.trans D.o)) hr (by decide)).mono ?_);rintro e w1 ⟨v1,rfl,⟨vm1,rfl,X⟩,aa⟩;have J:=Z_ aa;have S1:=HL.o _ (D.o.trans aa);have ad:=Z_ X;obtain⟨a1,n1,rfl⟩:=X.form;clear aa X)
   |(go_at_call 106;(with_reducible refine(Tq _ m _ (HP.o.ext (HK.o.trans (D.o.trans J.o)) hS) (ZM hS (HK.o.trans (D.o.trans J.o))) hm).mono ?_);rintro e w2 ⟨v2,rfl,Z,K⟩;have ac:=Z_ K;have S2:=HL.o _ (D.o.trans (J.o.trans K));obtain⟨c0,c1,c2,cf⟩:=HN.o _ (D.o.trans (J.o.trans K));have f0:=cf 0;have f1:=cf 1;have f2:=cf 2;have HE:=Z_ (zS c0 (zS c1 c2));clear cf;have ae:=Z_ Z;obtain⟨a2,n2,rfl⟩:=Z.form;clear K Z))
 go_wp2;have hd:=λ x y z=>TV x y z HE.o.1 HE.o.2.1 HE.o.2.2;refine bodyPost_ret (by simp[results,Tryz.results95,go_sem,(hd _ _ _).1,(hd _ _ _).2.1,(hd _ _ _).2.2];rfl) rfl ?_;have e0:X7 ⟨⟨ng,I⟩,m⟩=⟨Z8 (Z6 ⟨ng,I⟩ + Z6 ⟨false,[]⟩),m⟩:=by rw[zaw,u_];rfl
 have hv:=AA (ng:=(Z8 (Z6 ⟨ng,I⟩ + Z6 ⟨false,[]⟩)).neg) ad.o ac.o ae.o J.o;have hg:=MK (w0:=w) (b:=w.heap.size+1) hv (HK.o.trans D.o) (J.o.trans ac.o) (by omega) (zU af.o D.o.size) (.bool (Z8 (Z6 ⟨ng,I⟩ + Z6 ⟨false,[]⟩)).neg) (.slice a1 (Z8 (Z6 ⟨ng,I⟩ + Z6 ⟨false,[]⟩)).mag.length n1) (.slice a2 m.length n2);rw[e0];exact⟨_,rfl,hg.1,hg.2⟩
def Wk(ts:List RTerm):RTerm:=match z3b ts with
 | []=>⟨⟨false,[]⟩,[]⟩
 |t :: _=>X7 t
def JL(w:World)(ts:List RTerm):Ending->World->Prop:=λ e w'=>∃v',e=.returned (.tuple #[v',.bool (decide (0<(z3b ts).length))])/\zcp (New w w') w' v' (Wk ts)/\Ext w w'
theorem Nr(S:Nat->Prop)(w:World):zcp S w (.agg #[.bool false,.slice none 0 0,.slice none 0 0]) ⟨⟨false,[]⟩,[]⟩:=⟨_,_,rfl,ul _ _ _ _ (by omega),uB _ _ _⟩
theorem F0{ts:List RTerm}(h:ZR ts=true):∀t∈ts,t.m.length<=200:=by
 intro t ht;have:=(RY h).1 t ht;simp only[z2s,zK]at this;exact WR this.2
theorem Ki{S:Nat->Prop}(v:Value)(ts:List RTerm)(w:World)(h:z06 S w v ts)(hS:∀k,S k->k<w.heap.size)(hr:Yk ts) :
  Calls Tryz.prog 56 #[v] w (JL w ts):=by
 have hnot:∀(x:Bool) (w:World),(Op.unary .not (.bool x)).run Tryz.prog w=.ok (.bool (!x)) w:=λ _ _=>rfl;have H:=Z_ h;have HR:=Z_ hr;obtain⟨a,cap,rfl⟩:=h.form;have hl:=h.len_le;clear h hr;have J:=Z_ (uO (uP w) (.cells #[.bool false,.slice none 0 0,.slice none 0 0] 54))
 have HN:Hd (∀W,Ext (w.alloc (.cells #[.bool false,.slice none 0 0,.slice none 0 0] 54)) W ->
   W.cell? ⟨w.heap.size,0,none⟩=some (.bool false)/\W.cell? ⟨w.heap.size,1,none⟩=some (.slice none 0 0)/\W.cell? ⟨w.heap.size,2,none⟩=some (.slice none 0 0)/\∀i,W.frozen? ⟨w.heap.size,i,none⟩=false):=Z_ (λ W hW=>⟨hW.new_cell rfl,hW.new_cell rfl,hW.new_cell rfl,λ i=>hW.new_free i⟩)
 have ah:Hd (w.heap.size<(w.alloc (.cells #[.bool false,.slice none 0 0,.slice none 0 0] 54)).heap.size):=Z_ (by simp)
 by_cases h0:ts.length=0
 ·obtain rfl:ts=[]:=zO.1 h0;clear h0;obtain⟨c0,c1,c2,cf⟩:=HN.o _ (uP _);have f0:=cf 0;have f1:=cf 1;have f2:=cf 2;have K:=Z_ (zS c0 (zS c1 c2));clear cf
  go_enter Tryz.func56,Tryz.ntmps56
  go_wp2;refine bodyPost_ret (by simp[results,Tryz.results56,go_sem];rfl) rfl ?_;exact⟨_,rfl,Nr _ _,J.o⟩
 ·have hb:((ts.length:Int) == 0)=false:=by rw[beq_eq_false_iff_ne];omega
  have U:0<ts.length:=by omega
  have hM:=λ W (hW:Ext (w.alloc (.cells #[.bool false,.slice none 0 0,.slice none 0 0] 54)) W)=>Wy (S:=S) _ ts W (H.o.ext (J.o.trans hW) hS) (ZM hS (J.o.trans hW)) HR.o
  cases hm:ZR ts with
  |false=>
   simp only[hm]at hM;have HM:=Z_ hM;have e1:z3b ts=[]:=by simp[z3b,hm]
   have E:=Z_ e1;clear hM hm h0 e1
   go_enter Tryz.func56,Tryz.ntmps56
   go_wp2_with fail;refine(HM.o _ (uP _)).mono ?_;rintro e w1 ⟨rfl,D⟩;obtain⟨c0,c1,c2,cf⟩:=HN.o _ D;have f0:=cf 0;have f1:=cf 1;have f2:=cf 2;have K:=Z_ (zS c0 (zS c1 c2));have I:=Z_ D;clear cf D;go_wp2;have hd:=λ x y z=>TV x y z K.o.1 K.o.2.1 K.o.2.2;refine bodyPost_ret (by simp[results,Tryz.results56,go_sem,(hd _ _ _).1,(hd _ _ _).2.1,(hd _ _ _).2.2];rfl) rfl ?_;refine⟨_,by rw[E.o];rfl,?_,(J.o.trans I.o).set3 (zR _) _ _ _⟩;unfold Wk;rw[E.o];exact Nr _ _
  |true=>
   simp only[hm]at hM;have HM:=Z_ hM;have e1:z3b ts=ts:=by simp[z3b,hm]
   have E:=Z_ e1;obtain⟨t,ht⟩:=ZN U;have X:=F0 hm t (zP ht);have Z:=HR.o t (zP ht);obtain⟨b,off,vm,vo,rfl,-,hn1,hm1,hSb,h1,h2,h3,h4,h5⟩:=H.o.cellAt ht;have HT:=Z_ ht;simp only[yE,zp]at h1 h2 h3;have HC:=Z_ (zS h1 (zS h2 h3));obtain⟨⟨ng,zs⟩,m⟩:=t;simp only at h1 h2 h3 h4 h5 HC X Z;have H4:=Z_ h4;have H5:=Z_ h5;obtain⟨am,cm,rfl⟩:=h4.form;obtain⟨ao,co,rfl⟩:=h5.form;have ac:=Z_ (zS X Z);clear hM hm h0 e1 ht h4 h5 h1 h2 h3 X Z
   go_enter Tryz.func56,Tryz.ntmps56
   go_wp2_with fail;refine(HM.o _ (uP _)).mono ?_;rintro e w1 ⟨rfl,D⟩;have I:=Z_ D;have g1:=(J.o.trans D).cell HC.o.1;have g2:=(J.o.trans D).cell HC.o.2.1;have g3:=(J.o.trans D).cell HC.o.2.2;clear D;go_wp2_with fail;refine(GV _ ⟨⟨ng,zs⟩,m⟩ _ ⟨_,_,rfl,H4.o.ext (J.o.trans I.o) hS,H5.o.ext (J.o.trans I.o) hS⟩ (ZM hS (J.o.trans I.o)) ac.o.2 (zT ac.o.1 (by decide))).mono ?_;rintro e w2 ⟨v2,rfl,ad,O⟩;obtain⟨c0,c1,c2,cf⟩:=HN.o _ (I.o.trans O);have f0:=cf 0;have f1:=cf 1;have f2:=cf 2;have K:=Z_ (zS c0 (zS c1 c2));have af:=Z_ O;have ag:=Z_ ad;obtain⟨vm2,vo2,rfl,aa,ae⟩:=ad;obtain⟨a1,n1,rfl⟩:=aa.form;obtain⟨a2,n2,rfl⟩:=ae.form;clear cf O aa ae;go_wp2;have hd:=λ x y z=>TV x y z K.o.1 K.o.2.1 K.o.2.2;refine bodyPost_ret (by simp[results,Tryz.results56,go_sem,(hd _ _ _).1,(hd _ _ _).2.1,(hd _ _ _).2.2];rfl) rfl ?_;have hg:=MK (w0:=w) (b:=w.heap.size) ag.o (J.o.trans I.o) af.o (by omega) (zU ah.o I.o.size) (.bool (X7 ⟨⟨ng,zs⟩,m⟩).c.neg) (.slice a1 (X7 ⟨⟨ng,zs⟩,m⟩).c.mag.length n1) (.slice a2 (X7 ⟨⟨ng,zs⟩,m⟩).m.length n2)
   have el:Wk ts=X7 ⟨⟨ng,zs⟩,m⟩:=by
    unfold Wk;rw[E.o]
    cases ts with
    |nil=>simp at U
    |cons t r=>
     obtain rfl:t=⟨⟨ng,zs⟩,m⟩:=by simpa using HT.o
     rfl
   refine⟨_,by rw[E.o,decide_eq_true U],?_,hg.2⟩;rw[el];exact hg.1
theorem Th{S:Nat->Prop}(v:Value)(ts:List RTerm)(w:World)(h:z06 S w v ts)(hS:∀k,S k->k<w.heap.size)(hr:Yk ts) :
  Calls Tryz.prog 31 #[v] w λ e w'=>e=.returned (.int .i64 (ZL (Zt ts)))/\Ext w w':=by
 have U:z1l (z1s (Wk ts).m)=ZL (Zt ts):=by
  unfold Wk;rw[<-TL]
  cases hp:z3b ts with
  |nil=>rfl
  |cons t r=>
   have hm:Z3 t.m=true:=by
    have h1:=(UL ts).may (Z6 t.c,t.m) (by rw[<-TL,hp];exact zz);exact h1
   show z1l (z1s (X7 t).m)=z1l t.m;unfold z1s X7;rw[if_pos hm]
 have EC:=Z_ U;have H:=Z_ h;have HR:=Z_ hr;obtain⟨a,cap,rfl⟩:=h.form;clear h hr U
 go_enter Tryz.func31,Tryz.ntmps31
 go_wp2_with fail;refine(Ki _ ts w H.o hS HR.o).mono ?_;rintro e w1 ⟨v1,rfl,⟨vm,vo,rfl,I,y⟩,D⟩;obtain⟨a1,Z,rfl⟩:=I.form;obtain⟨a2,n2,rfl⟩:=y.form;have K:=Z_ D;have X:=Z_ y;have J:=Z_ (uO (uP w1) (.cells #[.bool (Wk ts).c.neg,.slice a1 (Wk ts).c.mag.length Z,.slice a2 (Wk ts).m.length n2] 54));clear D I y;go_wp2_with fail;refine(GJ _ (Wk ts).m _ (X.o.ext J.o (λ _ h=>h.2)) (ZM (λ _ h=>h.2) J.o)).mono ?_;rintro e w2 ⟨rfl,z⟩;have O:=Z_ z;clear z;go_wp2
 all_goals
  go_ret;exact⟨by rw[EC.o];rfl,K.o.trans (J.o.trans O.o)⟩
theorem OE{S:Nat->Prop}(v:Value)(ts:List RTerm)(w:World)(h:z06 S w v ts)(hS:∀k,S k->k<w.heap.size)(hr:Yk ts) :
  Calls Tryz.prog 74 #[v] w λ e w'=>∃v',e=.returned v'/\z06 S w' v' (z3b ts)/\Ext w w':=by
 have H:=Z_ h;have D:=Z_ hr;obtain⟨a,cap,rfl⟩:=h.form;clear h hr
 go_enter Tryz.func74,Tryz.ntmps74
 go_wp2_with fail;refine(Wy _ ts w H.o hS D.o).mono ?_;rintro e w1 ⟨rfl,z⟩;have y:=Z_ z;clear z
 cases hm:ZR ts with
 |false=>
  go_wp2
  all_goals
   go_ret;refine⟨_,rfl,?_,y.o⟩;rw[show z3b ts=[] by simp[z3b,hm]];exact⟨0,0,⟨_,0,rfl,zR _,zL _,λ h=>absurd h (yQ _),λ h=>absurd h (yQ _)⟩,λ j x hx=>by simp at hx⟩
 |true=>
  go_wp2
  all_goals
   go_ret;refine⟨_,rfl,?_,y.o⟩;rw[show z3b ts=ts by simp[z3b,hm]];exact H.o.ext y.o hS
end
section
open Go.RowKit
theorem new2{w W:World}{u v:Value}{T:TypeId}(h:Ext (w.alloc (.cells #[u,v] T)) W) :
  W.cell? ⟨w.heap.size,0,none⟩=some u/\W.cell? ⟨w.heap.size,1,none⟩=some v/\W.frozen? ⟨w.heap.size,0,none⟩=false/\W.frozen? ⟨w.heap.size,1,none⟩=false :=
 ⟨h.new_cell rfl,h.new_cell rfl,h.new_free 0,h.new_free 1⟩
theorem Co(p:PZ)(t:Int×Z7)(v:Int):degP (p ++ [t]) v=max (degP p v) (ex t.2 v):=by
 simp[degP,List.foldl_append]
theorem EJ{p:PZ}{k:Nat}{t:Int×Z7}(h:p[k]? = some t)(v:Int):degP (p.take (k+1)) v=max (degP (p.take k) v) (ex t.2 v):=by
 rw[zv,h];exact Co _ _ _
theorem AF{p:PZ}(h:ZD p)(k:Nat):ZD (p.take k):=λ t ht=>h t (yU ht)
theorem N6{S:Nat->Prop}(v:Value)(ts:List RTerm)(x:Int)(w:World)(h:z06 S w v ts)(hS:∀k,S k->k<w.heap.size)(hr:Yk ts)(hx:-9223372036854775808<=x/\x<=9223372036854775807) :
  Calls Tryz.prog 41 #[v,.int .i64 x] w λ e w'=>e=.returned (.int .i64 (degP (Zt ts) x))/\Ext w w':=by
 have H:=Z_ h;have HR:=Z_ hr;have ac:=Z_ hx;obtain⟨a,cap,rfl⟩:=h.form;clear h hr hx
 go_enter Tryz.func41,Tryz.ntmps41
 go_wp2_with fail;refine(OE _ ts w H.o hS HR.o).mono ?_;rintro e w1 ⟨v1,rfl,Z,U⟩;have O:=Z_ U;have HP:=Z_ Z;have y:ZD (Zt ts):=(UL ts).may;rw[<-TL]at y;have ep:Zt ts=toP (z3b ts):=(TL ts).symm;have EP:=Z_ ep;clear ep;generalize z3b ts=qs at *;have z:=Z_ y;obtain⟨a1,c1,rfl⟩:=Z.form;have hl:=Z.len_le;clear U Z y;go_wp2
 go_loopw [4,10] (λ d i wr=>∃k:Nat,k<=qs.length/\i=.int .i64 k/\d=.int .i64 (degP ((toP qs).take k) x)/\Ext w1 wr) (λ _ i _=>qs.length-(intOf i).toNat)
 case atStart=>exact⟨0,zL _,rfl,rfl,uP _⟩
 case round=>
  obtain⟨k,hk,rfl,rfl,hx⟩:=hrel;obtain⟨hd1,hd2⟩:=XW (AF z.o k) x
  by_cases aa:k<qs.length
  ·obtain⟨t,ht⟩:=ZN aa;obtain⟨b,off,vm,vo,rfl,-,hn1,hm1,hSb,h1,h2,h3,h4,X⟩:=HP.o.cellAt ht;have hq:(toP qs)[k]? = some (Z6 t.c,t.m):=by simp[toP,ht]
   have D:Z3 t.m=true:=z.o _ (zP hq);have I:ex (z1s t.m) x=ex t.m x:=by unfold z1s;rw[if_pos D]
   have HS:=Z_ (EJ hq x);obtain⟨ad,ag⟩:=X6 D x;obtain⟨⟨ng,zs⟩,m⟩:=t;simp only at h1 h2 h3 h4 X I ad ag HS;have H5:=Z_ X;obtain⟨am,cm,rfl⟩:=h4.form;obtain⟨ao,co,rfl⟩:=X.form;have g1:=uz hx h1;have g2:=uz hx h2;have g3:=uz hx h3;have HX:=Z_ hx;have HA:=Z_ (hx.alloc (.cells #[.bool ng,.slice am zs.length cm,.slice ao m.length co] 54));have J:∀k,S k->k<w1.heap.size:=ZM hS O.o;have HD:=Ng (S:=S) (.slice ao m.length co) m x _ (H5.o.ext HA.o J) (ZM J HA.o) ac.o;rw[I]at HD;have af:=Z_ HD;clear h1 h2 h3 h4 X hx ht hq D I HD;generalize degP ((toP qs).take k) x=d at *;generalize ex m x=q at *;go_wp2_with fail;refine af.o.mono ?_;rintro e w2 ⟨rfl,K⟩;have ae:=Z_ (HA.o.trans K);clear K;go_wp2
   go_roundw
   case rel=>exact⟨k+1,by omega,by go_num,by rw[HS.o];first|done|exact congrArg (Value.int .i64) (by split<;>omega),ae.o⟩
   case measure=>simp only[intOf];omega
  ·obtain rfl:k=qs.length:=by omega
   have HX:=Z_ hx;clear hx;go_wp2
   all_goals
    go_ret;refine⟨?_,O.o.trans HX.o⟩;rw[EP.o,zN (by simp[toP])];rfl
end
section
open Go.RowKit
def ZV(S:Nat->Prop)(w:World)(v:Value)(z:Int):Prop:=∃vd,v=.agg #[.bool (decide (z<0)),vd]/\Digs S w vd (Z4 10 z.natAbs)
theorem ZV.to{S S':Nat->Prop}{w w':World}{v:Value}{z:Int}(h:ZV S w v z)(hk:Kept S w w')(hS:∀k,S k->S' k):ZV S' w' v z:=by
 obtain⟨vd,h1,h2⟩:=h;exact⟨vd,h1,h2.to hk hS⟩
theorem ZV.ext{S:Nat->Prop}{w W:World}{v:Value}{z:Int}(h:ZV S w v z)(hx:Ext w W)(hS:∀k,S k->k<w.heap.size):ZV S W v z:=h.to (uM hx hS) (λ _ h=>h)
theorem ZV.form{S:Nat->Prop}{w:World}{v:Value}{z:Int}(h:ZV S w v z):∃a n c,v=.agg #[.bool (decide (z<0)),.slice a n c]:=by
 obtain⟨vd,h1,h2⟩:=h;obtain⟨a,c,rfl⟩:=h2.form;exact⟨a,_,c,h1⟩
theorem ED(b:Bool)(n:Nat):decide (sg b n<0)=(b && decide (0<n)):=by
 unfold sg
 cases b<;>simp<;>omega
theorem Cy(b:Bool)(n:Nat):(sg b n).natAbs=n:=by
 unfold sg
 cases b<;>simp
theorem Uz(n:Nat):decide (0<(Z4 10 n).length)=decide (0<n):=by
 rw[decide_eq_decide,yF,Ne,WG Y5];omega
theorem Tp{S:Nat->Prop}{w:World}{vd:Value}{b:Bool}{n:Nat}(h:Digs S w vd (Z4 10 n)):ZV S w (.agg #[.bool (b && decide (0<n)),vd]) (sg b n) :=
 ⟨vd,by rw[ED],by rw[Cy];exact h⟩
theorem Vx{w0 w1 w2:World}{b:Nat}{v:Value}{z:Int}(hv:ZV (New w1 w2) w2 v z)(h01:Ext w0 w1)(h12:Ext w1 w2)(hb0:w0.heap.size<=b)(hb1:b<w1.heap.size)(x y:Value) :
  ZV (New w0 ((w2.setCell ⟨b,0,none⟩ x).setCell ⟨b,1,none⟩ y)) ((w2.setCell ⟨b,0,none⟩ x).setCell ⟨b,1,none⟩ y) v z/\Ext w0 ((w2.setCell ⟨b,0,none⟩ x).setCell ⟨b,1,none⟩ y):=by
 refine⟨hv.to (ur (λ h=>?_) _ _) (λ k hk=>⟨zT h01.size hk.1,?_⟩),(h01.trans h12).set2 hb0 _ _⟩
 ·have:=h.1;omega
 ·rw[z2m];exact hk.2
theorem Uj{w W:World}{u0 v0:Value}{T0:TypeId}{u v:Value}{T:TypeId}(h:Ext ((w.alloc (.cells #[u0,v0] T0)).alloc (.cells #[u,v] T)) W) :
  W.cell? ⟨w.heap.size+1,0,none⟩=some u/\W.cell? ⟨w.heap.size+1,1,none⟩=some v/\W.frozen? ⟨w.heap.size+1,0,none⟩=false/\W.frozen? ⟨w.heap.size+1,1,none⟩=false:=by
 have:=new2 h;rw[z00]at this;exact this
theorem WC{w W:World}{u0 v0:Value}{T0:TypeId}{o:Obj}(h:Ext ((w.alloc (.cells #[u0,v0] T0)).alloc o) W):W.cell? ⟨w.heap.size,0,none⟩=some u0/\W.cell? ⟨w.heap.size,1,none⟩=some v0 :=
 ⟨(new2 ((uO (uP _) o).trans h)).1,(new2 ((uO (uP _) o).trans h)).2.1⟩
def XZ(z:Int):Prop:=(Z4 10 z.natAbs).length<=2000000
end
section
open Go.RowKit
def RZ(o:Oper):Bool:=match o.op with
 | .move _=>true
 | .assign _=>true
 | .pick _ _ _=>true
 | .load _ _=>true
 | .build _ _=>true
 | .fieldAddr _ _ _=>true
 | .indexAddr _ _ _=>true
 | .binOp _ _ _ _ _=>true
 | .unOp _ _ _=>true
 | .convert _ _ _=>true
 | .extract _ _=>true
 | .call c=>match c.callee with
  | .builtin .len=>true
  |_=>false
 |_=>false
theorem Vf{P:Program}(s:Sem Value)(W:World):(∃x w',(do pure (Next.value (<-s)):Sem Next).run P W=.ok (.value x) w')∨(∃h w',(do pure (Next.value (<-s)):Sem Next).run P W=.halt h w'):=by
 simp only[Sem.run_bind]
 cases s.run P W with
 |ok x w'=>exact .inl ⟨x,w',by simp⟩
 |halt h w'=>exact .inr ⟨h,w',rfl⟩
theorem JW{P:Program}{o:Oper}(h:RZ o=true)(ρ:Operand->Value)(W:World):(∃x w',(execOp ρ o).run P W=.ok (.value x) w')∨(∃h w',(execOp ρ o).run P W=.halt h w'):=by
 unfold RZ at h;unfold execOp
 cases hop:o.op with
 |move x=>exact .inl ⟨_,_,rfl⟩
 |assign x=>exact .inl ⟨_,_,rfl⟩
 |pick c a b=>
  simp only[Sem.run_bind]
  cases (asBool (ρ c)).run P W with
  |ok x w'=>exact .inl ⟨_,w',rfl⟩
  |halt h w'=>exact .inr ⟨h,w',rfl⟩
 |load t a=>exact Vf _ W
 |build t a=>exact Vf _ W
 |fieldAddr t a b=>exact Vf _ W
 |indexAddr t a b=>exact Vf _ W
 |binOp a b c d e=>exact Vf _ W
 |unOp a b c=>exact Vf _ W
 |convert a b c=>exact Vf _ W
 |extract a b=>exact Vf _ W
 |call c=>
  rw[hop]at h;simp only at h
  split at h
  ·rename_i hc
   simp only[resolve,hc,Sem.run_bind,Sem.run_pure,Result.andThen_ok,invoke,builtin]
   cases (Builtin.len_ c.argTypes o.type (Array.map ρ c.args)).run P W with
   |ok x w'=>exact .inl ⟨x,w',rfl⟩
   |halt h w'=>exact .inr ⟨h,w',rfl⟩
  ·cases h
 |_=>rw[hop]at h;simp at h
theorem Fr{P:Program}{ops:Array Oper}{S:World->Prop}{o:Oper}{v:Value}{a:Act}(hp:RZ o=true)(h:YieldsIn P ops S o v a):YieldsIf P ops S o v a:=by
 rcases h with ⟨z,D⟩|⟨z,D⟩
 ·refine .inl ⟨z,λ W hW=>?_⟩;have y:=D W hW;unfold Oper.quietAt at y
  rcases JW (P:=P) hp a.eval W with ⟨x,w',e⟩|⟨x,w',e⟩
  ·rw[e]at y⊢;simp only[Oper.quietUpon]at y;rw[y.1,y.2]
  ·rw[e]at y;exact absurd y (by simp[Oper.quietUpon])
 ·exact .inr ⟨z,D⟩
def zvr(md:Region.Mode)(ops:Array Oper)(g:Nat):List Oper->Nat->Array Bool->Bool
 | [],k,listed=>Region.seqB md ops g k listed
 |o :: l,k,listed=>RZ o && (Region.ready md ops listed).contains k && Region.free md ops listed k && zvr md ops g l (k+1) (listed.setIfInBounds k true)
def MO(S:World->Prop)(K:Act->World->Prop)(Q:Exit->Act->World->Prop):Exit->Act->World->Prop
 | .normal,a,w=>S w/\K a w
 |ex,a,w=>Q ex a w
def UU(P:Program)(ops:Array Oper)(S:World->Prop)(Q:Exit->Act->World->Prop):List Oper->Act->World->Prop
 | [],a,w=>Q .normal a w
 |o :: l,a,w=>wpList P ops (MO S (UU P ops S Q l) Q) [o] a w
section
variable {P:Program} {md:Region.Mode} {ops:Array Oper} {S:World->Prop} {Q:Exit->Act->World->Prop}
theorem O9:∀(l:List Oper) (k:Nat) (listed:Array Bool) (a:Act) (w:World),(∀j,l[j]? = ops[k+j]?) ->
  Region.seqB md ops l.length k listed=true->UU P ops S Q l a w->wpAnyH P md ops Q S l.length listed a w
 | [],_,_,_,_,_,hB,h=>⟨by simpa[Region.seqB]using hB,h⟩
 |o :: l,k,listed,a,w,hl,hB,h=>by
  have h0:ops[k]? = some o:=by simpa using (hl 0).symm
  simp only[zM,Region.seqB,zK,decide_eq_true_eq]at hB;refine⟨λ h1=>(by rw[hB.1]at h1;cases h1),λ i hi=>?_⟩;rw[hB.1]at hi;have z:i=k:=by simpa using hi
  subst z
  have y:∀a' w',(S w'/\UU P ops S Q l a' w')->(S w'/\wpAnyH P md ops Q S l.length (listed.setIfInBounds i true) a' w'):=λ a' w' h'=>
   ⟨h'.1,O9 l (i+1) _ a' w' (λ j=>by have:=hl (j+1);simpa[Nat.add_assoc,Nat.add_comm 1 j]using this) hB.2 h'.2⟩
  unfold UU wpList at h;unfold wpOp;simp only[h0]
  have I:∀(K:Act->World->Prop) (r:Result Next),o.upon P a K (MO S (UU P ops S Q l) Q) r->o.upon P a K Q r:=by
   intro K r D
   cases r with
   |ok n w'=>cases n<;>exact D
   |halt x w'=>cases x<;>exact D
  split
  ·rename_i hw
   rw[if_pos hw]at h
   rcases h with h|h
   ·exact .inl (Oper.wp_mono (λ a' w' h'=>y a' w' h') (I _ _ h))
   ·exact .inr h
  ·rename_i hw
   rw[if_neg hw]at h;exact y _ _ h
theorem OL(hsel:Region.noSelect ops=true)(hQ:∀c a t v w,Q (.panic c) (a.put (some t) v) w->Q (.panic c) a w){g:Nat}{w:World}(hS:S w){L:Act->Prop} :
  ∀(l:List Oper) (k:Nat) (listed:Array Bool) (a:Act),(∀j,j<l.length->l[j]? = ops[k+j]?)->zvr md ops g l k listed=true->wpQuiet P ops S L l a ->
   (∀listed' a',Region.seqB md ops g (k+l.length) listed'=true->L a'->wpAnyH P md ops Q S g listed' a' w)->wpAnyH P md ops Q S (l.length+g) listed a w
 | [],k,listed,a,_,hB,h,hL=>by
  simp only[zo,zr];exact hL listed a hB h
 |o :: l,k,listed,a,hl,hB,h,hL=>by
  have h0:ops[k]? = some o:=by simpa using (hl 0 (by simp)).symm
  simp only[zvr,zK]at hB;obtain⟨⟨⟨y,O⟩,I⟩,z⟩:=hB;have D:qOp P ops S k (wpQuiet P ops S L l) a:=by unfold qOp;simp only[h0];exact h
  obtain⟨v,J,K⟩:=yieldsIn_of_qOp h0 D;rw[show(o :: l).length+g=(l.length+g)+1 by simp only[zM];omega]
  refine wpAnyH_take h0 hsel I O (λ c a w y=>?_) (Fr y J) hS ?_
  ·cases hd:o.dst with
   |none=>rw[hd]at y;exact y
   |some t=>rw[hd]at y;exact hQ c a t v w y
  exact OL hsel hQ hS l (k+1) _ _ (λ j hj=>by have:=hl (j+1) (by simp;omega);simpa[Nat.add_assoc,Nat.add_comm 1 j]using this) z K
   (λ listed' a' hs hLa=>hL listed' a' (by rw[show k+(o :: l).length=k+1+l.length by simp only[zM];omega];exact hs) hLa)
theorem Dc{id:Nat}{a:Act}{w:World}{l:List Oper}(S:World->Prop)(n:Nat)(hm:P.follows .mixedOrders=true)(hsel:Region.noSelect l.toArray=true)(hn:n<=l.length)
  (hB:zvr .any l.toArray (l.length-n) (l.take n) 0 (Array.replicate l.length false)=true) (hQ:∀c a t v w,Q (.panic c) (a.put (some t) v) w->Q (.panic c) a w) (hS:S w.drew)
  (h:wpQuiet P l.toArray S (λ a'=>UU P l.toArray S Q (l.drop n) a' w.drew) (l.take n) a):(Code.region id l.toArray true).wp P Q a w:=by
 refine wp_region_held (S:=S) hm ?_;have y:(l.take n).length=n:=by simp;omega
 have z:(l.drop n).length=l.length-n:=by simp
 have H:=OL (P:=P) (md:=.any) (ops:=l.toArray) (S:=S) (Q:=Q) hsel hQ (g:=l.length-n) (w:=w.drew) hS (l.take n) 0 (Array.replicate l.length false) a (λ j hj=>by
  have D:j<n:=by rw[y]at hj;exact hj
  simp[D]) hB h (λ listed' a' hs hL=>by
   have:=O9 (P:=P) (md:=.any) (ops:=l.toArray) (S:=S) (Q:=Q) (l.drop n) n listed' a' w.drew (λ j=>by simp[List.getElem?_drop]) (by rw[z];rw[y,zr]at hs;exact hs) hL
   rwa [z]at this)
 rw[y,show n+(l.length-n)=l.length by omega]at H;simpa using H
end
structure LaterB (B:Nat) (w:World) where
 w':World
 h:Below B w w'
theorem LaterB.cell{B:Nat}{w:World}(X:LaterB B w){b i:Nat}{v:Value}(hb:b<B)(hc:w.cell? ⟨b,i,none⟩=some v):X.w'.cell? ⟨b,i,none⟩=some v:=W9 X.h hb hc
end
end Go.Proofs.YtlbohjnfkhemlaaGreat
