/- A polynomial's value at a point. -/
import Derived.IntWalk
import Derived.Deep.RegionWith
import Derived.Deep.DeepCutAuto
import Derived.Deep.CutBlock
import Derived.Deep.AppendLies
import Derived.Deep.RegionLaw
import Derived.Test.YtlbohjnfkhemlaaGreatTp12
set_option maxRecDepth 100000
set_option maxHeartbeats 16000000
namespace Go.Proofs.YtlbohjnfkhemlaaGreat
section
open Go.RowKit Go.Deep
def Rats(S:Nat->Prop)(w:World)(v:Value)(l:List (RInt×RInt)):Prop :=
 ∃b off,z3r S v l.length b off/\∀j r,l[j]? = some r->∃vn vd,w.cell? ⟨b,off+j*4,none⟩=some (.bool r.1.neg) /\
  w.cell? ⟨b,off+j*4+1,none⟩=some vn/\w.cell? ⟨b,off+j*4+2,none⟩=some (.bool r.2.neg)/\w.cell? ⟨b,off+j*4+3,none⟩=some vd/\U32s S w vn r.1.mag/\U32s S w vd r.2.mag
theorem Rats.form{S:Nat->Prop}{w:World}{v:Value}{l:List (RInt×RInt)}(h:Rats S w v l):∃a cap,v=.slice a l.length cap:=by
 obtain⟨b,off,⟨a,cap,h1,_⟩,_⟩:=h;exact⟨a,cap,h1⟩
theorem Rats.to{S S':Nat->Prop}{w w':World}{v:Value}{l:List (RInt×RInt)}(h:Rats S w v l)(hk:Kept S w w')(hS:∀k,S k->S' k):Rats S' w' v l:=by
 obtain⟨b,off,y,D⟩:=h;refine⟨b,off,y.mono hS,λ j t hj=>?_⟩;obtain⟨z,I,O,K,J,Z,U,X⟩:=D j t hj;have hb:=y.in (Zy hj);exact⟨z,I,hk.cell hb O,hk.cell hb K,hk.cell hb J,hk.cell hb Z,U.to hk hS,X.to hk hS⟩
theorem Rats.on{w W:World}{v:Value}{z:List (RInt×RInt)}(h:Rats (Z2 w) w v z)(hx:Ext w W):Rats (Z2 W) W v z:=h.to (uM hx (λ _ h=>h)) (Vw hx)
theorem Rats.len_le{S:Nat->Prop}{w:World}{v:Value}{l:List (RInt×RInt)}(h:Rats S w v l):l.length<=9223372036854775807:=by
 obtain⟨b,off,⟨a,cap,h1,h2,h3,_⟩,_⟩:=h;unfold maxLen at h3;omega
theorem Rats.lt{S:Nat->Prop}{w:World}{v:Value}{l:List (RInt×RInt)}(h:Rats S w v l):∀x∈l,(∀z∈x.1.mag,z<Z9)/\∀z∈x.2.mag,z<Z9:=by
 obtain⟨b,off,hs,hc⟩:=h;intro t ht;obtain⟨j,hj⟩:=yp ht;obtain⟨vn,vd,h1,h2,h3,h4,h5,h6⟩:=hc j t hj;exact⟨h5.lt,h6.lt⟩
theorem Rats.cellAt{S:Nat->Prop}{w:World}{l:List (RInt×RInt)}{a:Option Addr}{n cap k:Nat}{r:RInt×RInt}(h:Rats S w (.slice a n cap) l)(hr:l[k]? = some r) :
  ∃b off vn vd,a=some ⟨b,off,none⟩/\n<=cap/\cap<=9223372036854775807/\S b/\w.cell? ⟨b,off+k*4,none⟩=some (.bool r.1.neg)/\w.cell? ⟨b,off+k*4+1,none⟩=some vn/\w.cell? ⟨b,off+k*4+2,none⟩=some (.bool r.2.neg)/\w.cell? ⟨b,off+k*4+3,none⟩=some vd /\
   U32s S w vn r.1.mag/\U32s S w vd r.2.mag:=by
 obtain⟨b,off,⟨a',y,h1,I,U,K,J⟩,hc⟩:=h;obtain⟨rfl,rfl,rfl⟩:a=a'/\n=l.length/\cap=y:=by simpa using h1
 have z:0<l.length:=by have:=Zy hr;omega
 obtain⟨vn,vd,g1,Z,X,D,O,g6⟩:=hc k r hr;exact⟨b,off,vn,vd,K z,I,U,J z,g1,Z,X,D,O,g6⟩
theorem Px{m:Z7}:∀{l:Int},z0d l m=true->∀y∈m,l<y.1/\y.1<=z1l m/\1<=y.2/\y.2<=10000:=by
 induction m with
 |nil=>exact λ _ y D=>by cases D
 |cons x r ih=>
  intro l h y D;have hc:=Vz h (by simp);have I:=h;simp only[z0d,zK,decide_eq_true_eq]at I
  rcases zJ.1 D with rfl|D
  ·refine⟨I.1.1,?_,I.1.2.2.1,I.1.2.2.2⟩
   cases r with
   |nil=>exact yi _
   |cons z r=>
    rw[z5q];have:=Vz I.2 (by simp);omega
  ·obtain⟨z,s,rfl⟩:∃z s,r=z :: s:=by
    cases r with
    |nil=>cases D
    |cons z s=>exact⟨z,s,rfl⟩
   have J:=ih I.2 y D;rw[z5q];exact⟨by omega,J.2.1,J.2.2⟩
theorem MN{p:PZ}(h:canP p):∀t∈p,z1l t.2<=ZL p:=by
 intro t y
 cases p with
 |nil=>cases y
 |cons a r=>
  rcases zJ.1 y with rfl|D
  ·exact yi _
  ·have z:=h.2;rw[yN]at z;exact N9 (h.1 a (zz ..)).2 (h.1 t y).2 (z.1 t D)
structure AccAt (w:World) (b4 b:Nat) (wr:World) (o:Rat) (ao ad:Option Addr) (co cd:Nat):Prop where
 bo:QBox wr b (Z8 o.num) (Z8 (o.den:Int)) (.slice ao (Z8 o.num).mag.length co) (.slice ad (Z8 (o.den:Int)).mag.length cd)
 o1:U32s (NO3 w b4 b4 b wr) wr (.slice ao (Z8 o.num).mag.length co) (Z8 o.num).mag
 o2:U32s (NO3 w b4 b4 b wr) wr (.slice ad (Z8 (o.den:Int)).mag.length cd) (Z8 (o.den:Int)).mag
 ex:Ext w wr
 e:w.heap.size<=b
 h4:b4<wr.heap.size
theorem AccAt.ext{w:World}{b4 b:Nat}{wr W:World}{o:Rat}{ao ad:Option Addr}{co cd:Nat}(h:AccAt w b4 b wr o ao ad co cd)(hx:Ext wr W):AccAt w b4 b W o ao ad co cd :=
 ⟨h.bo.ext hx,SE h.o1 hx,SE h.o2 hx,h.ex.trans hx,h.e,zU h.h4 hx.size⟩
theorem AccAt.put{w:World}{b4 b:Nat}{wr W:World}{o o':Rat}{ao ad ao' ad':Option Addr}{co cd co' cd':Nat}(h:AccAt w b4 b wr o ao ad co cd)(hx:Ext wr W)
  (h1:U32s (New wr W) W (.slice ao' (Z8 o'.num).mag.length co') (Z8 o'.num).mag) (h2:U32s (New wr W) W (.slice ad' (Z8 (o'.den:Int)).mag.length cd') (Z8 (o'.den:Int)).mag) :
  AccAt w b4 b ((((W.setCell ⟨b,0,none⟩ (.bool (Z8 o'.num).neg)).setCell ⟨b,1,none⟩ (.slice ao' (Z8 o'.num).mag.length co')).setCell ⟨b,2,none⟩ (.bool (Z8 (o'.den:Int)).neg)).setCell ⟨b,3,none⟩ (.slice ad' (Z8 (o'.den:Int)).mag.length cd')) o' ao' ad' co' cd':=by
 have k:=h.ext hx;have s3:=h.bo.2.2.2.2.2;exact⟨k.bo.put _ _,Wa (SG h1 h.ex h.h4 h.h4 s3) (.inr (.inr rfl)) _ _ _ _,Wa (SG h2 h.ex h.h4 h.h4 s3) (.inr (.inr rfl)) _ _ _ _,Ys k.ex h.e _ _ _ _,h.e,by simp only[z03];exact k.h4⟩
theorem AccAt.new{w:World}{b4:Nat}{wp W:World}{o:Rat}{ao ad:Option Addr}{co cd:Nat}{T:TypeId}(hx:Ext w wp)(hy:Ext wp W)
  (h1:U32s (New wp W) W (.slice ao (Z8 o.num).mag.length co) (Z8 o.num).mag) (h2:U32s (New wp W) W (.slice ad (Z8 (o.den:Int)).mag.length cd) (Z8 (o.den:Int)).mag) (h4:b4<wp.heap.size∨b4=W.heap.size) :
  AccAt w b4 W.heap.size (W.alloc (.cells #[.bool (Z8 o.num).neg,.slice ao (Z8 o.num).mag.length co,.bool (Z8 (o.den:Int)).neg,.slice ad (Z8 (o.den:Int)).mag.length cd] T)) o ao ad co cd:=by
 have y:Ext W (W.alloc (.cells #[.bool (Z8 o.num).neg,.slice ao (Z8 o.num).mag.length co,.bool (Z8 (o.den:Int)).neg,.slice ad (Z8 (o.den:Int)).mag.length cd] T)):=uO (uP _) _;have s1:=hx.size;have s2:=hy.size
 have up:∀v zs,U32s (New wp W) W v zs->U32s (NO3 w b4 b4 W.heap.size (W.alloc (.cells #[.bool (Z8 o.num).neg,.slice ao (Z8 o.num).mag.length co,.bool (Z8 (o.den:Int)).neg,.slice ad (Z8 (o.den:Int)).mag.length cd] T))) (W.alloc (.cells #[.bool (Z8 o.num).neg,.slice ao (Z8 o.num).mag.length co,.bool (Z8 (o.den:Int)).neg,.slice ad (Z8 (o.den:Int)).mag.length cd] T)) v zs:=λ v zs h=>
  h.to (uM y uK) (λ k hk=>by
   have k1:=hk.1;have k2:=hk.2
   exact⟨by omega,by rw[z00];omega,by omega,by omega,by omega⟩)
 exact⟨QBox.new (uP _),up _ _ h1,up _ _ h2,(hx.trans hy).trans y,(hx.trans hy).size,by rw[z00];omega⟩
theorem AccAt.r{w:World}{b4 b:Nat}{wr:World}{o:Rat}{ao ad:Option Addr}{co cd:Nat}(h:AccAt w b4 b wr o ao ad co cd) :
  RatI (Z2 wr) wr (.agg #[.bool (Z8 o.num).neg,.slice ao (Z8 o.num).mag.length co,.bool (Z8 (o.den:Int)).neg,.slice ad (Z8 (o.den:Int)).mag.length cd]) (Z8 o.num) (Z8 (o.den:Int)) :=
 ⟨_,_,rfl,h.o1.to (uN _ _) NO3.lt,h.o2.to (uN _ _) NO3.lt⟩
theorem IJ{W:World}{vp vq:Value}{p:PZ}{pts:List (RInt×RInt)}{K E V N:Nat}(hp:z06 (Z2 W) W vp (Z5 p))(hq:Rats (Z2 W) W vq pts)(F:AtFit pts p K E V N) :
  Calls Tryz.prog 17 #[vp,vq] W λ e w'=>∃v',e=.returned (.tuple #[v',.int .i64 0])/\Yi (New W w') w' v' (evQ (gM pts) p)/\Ext W w':=by
 have hnot:∀(x:Bool) (w:World),(Op.unary .not (.bool x)).run Tryz.prog w=.ok (.bool (!x)) w:=λ _ _=>rfl;have HP:=Z_ hp;have HQ:=Z_ hq;have D:=Z_ F
 have d5:K+V*(E*4+1)+2<=1000000000/\N+1<=1000000000:=by
  have hb:=F.b;exact⟨zT (y9 _ (by omega)) hb,zT (yk _ (by omega)) hb⟩
 have aj:=Z_ d5
 have cB:Hd (Yk (Z5 p)):=Z_ (λ t O=>by
  obtain⟨u,hu,rfl⟩:=zG.1 O;have h1:=F.c u hu;show ZQ u.1<=_
  omega)
 have ai:Hd (∀v,Sz 4 (We pts v)):=Z_ (Nx hq.lt F.r);have C1:=Z_ (λ(Y:World) (hY:Ext W Y)=>Wy (S:=Z2 W) vp (Z5 p) Y (HP.o.ext hY (λ _ h=>h)) (λ _ h=>zU h hY.size) cB.o);have C2:=Z_ (λ(Y:World) (hY:Ext W Y)=>Th (S:=Z2 W) vp (Z5 p) Y (HP.o.ext hY (λ _ h=>h)) (λ _ h=>zU h hY.size) cB.o);rw[Xc F.can]at C1;rw[Tl F.can]at C2;have dG:=hp.len_le;have fB:=hq.len_le;have aR:=F.cls;obtain⟨ap,cp,rfl⟩:=hp.form;obtain⟨aq,cq,rfl⟩:=hq.form;obtain⟨cl,af⟩:∃c,c=ZL p:=⟨_,rfl⟩
 rw[<-af]at C2 aR;rw[z5w]at HP C1 C2 dG⊢;obtain⟨n,hn⟩:∃n,n=p.length:=⟨_,rfl⟩
 obtain⟨nq,bu⟩:∃n,n=pts.length:=⟨_,rfl⟩
 rw[<-hn]at HP C1 C2 dG⊢;rw[<-bu]at HQ aR fB⊢;have HN:=Z_ (zS hn (zS bu af));have hdc:decide ((nq:Int)<cl)=false:=decide_eq_false (by omega);obtain⟨w0,ac⟩:∃Y,Y=W.alloc (.cells #[.bool false,.slice none 0 0,.bool false,.slice none 0 0] 30):=⟨_,rfl⟩
 have dr:Hd (Ext W w0):=Z_ (by rw[ac];exact uO (uP _) _);have db:=Z_ (λ(Y:World) (hY:Ext w0 Y)=>WV (w:=W) (W:=Y) (T:=30) (by rw[<-ac];exact hY));have cb:=Z_ (C1.o w0 dr.o);rw[ac]at cb;have d6:=Z_ ac;clear hp hq F aR hn bu af ac d5
 go_enter Tryz.func17,Tryz.ntmps17
 go_wp2_with fail;(with_reducible refine cb.o.mono ?_);rintro e w1 ⟨rfl,az⟩;rw[<-d6.o]at az;have aF:=Z_ az;have a2:=Z_ (dr.o.trans az);have d8:=Z_ (C2.o w1 a2.o);clear az;go_wp2_with fail;(with_reducible refine d8.o.mono ?_);rintro e w2 ⟨rfl,a0⟩;have bl:=Z_ (a2.o.trans a0);have aa:=Z_ (aF.o.trans a0);clear a0;have C3:=Z_ (Qp (S:=Z2 w2) (.agg #[.bool false,.slice none 0 0]) ⟨false,[]⟩ w2 ⟨_,rfl,ul _ _ _ _ (by omega)⟩ (λ _ h=>h) (by decide));obtain⟨X,cP⟩:∃s:Rat,s=((Z6 ⟨false,[]⟩:Int):Rat):=⟨_,rfl⟩
 rw[<-cP]at C3;have e4:Hd (X=evQ (gM pts) (p.take 0)):=Z_ (by rw[cP];rfl);clear cP;go_wp2_with fail;(with_reducible refine C3.o.mono ?_);rintro e w3 ⟨v3,rfl,⟨vn3,vd3,rfl,bB,cj⟩,aC⟩;have HX3:=Z_ (bl.o.trans aC);have aH:=Z_ (aa.o.trans aC);have aG:=Z_ aC;have ds:=Z_ bB;have d3:=Z_ cj;obtain⟨a3,c3,rfl⟩:=bB.form;obtain⟨a4,c4,rfl⟩:=cj.form
 have fh:Hd (AccAt W W.heap.size w3.heap.size (w3.alloc (.cells #[.bool (Z8 X.num).neg,.slice a3 (Z8 X.num).mag.length c3,.bool (Z8 (X.den:Int)).neg,.slice a4 (Z8 (X.den:Int)).mag.length c4] 30)) X a3 a4 c3 c4) :=
  Z_ (AccAt.new bl.o aG.o ds.o d3.o (.inl (zU (db.o _ (uP _)).2.2.2.2.2 aa.o.size)))
 have e0:=Z_ (aH.o.trans (uO (uP w3) (.cells #[.bool (Z8 X.num).neg,.slice a3 (Z8 X.num).mag.length c3,.bool (Z8 (X.den:Int)).neg,.slice a4 (Z8 (X.den:Int)).mag.length c4] 30)));have el:Hd (w0.heap.size<=w3.heap.size):=Z_ aH.o.size;clear bB cj aC C1 cb C2 d8 C3 d6 aF aa a2 bl aG ds d3 cB;go_wp2
 go_loopw [28] (λ i wr=>∃(k:Nat) (s:Rat) (sa ad:Option Addr) (cs cd:Nat),k<=n/\i=.int .i64 (k:Nat)/\Hd (s=evQ (gM pts) (p.take k))/\Hd (AccAt W W.heap.size w3.heap.size wr s sa ad cs cd)/\Hd (Box wr W.heap.size)) (λ i _=>n-(intOf i).toNat)
 case atStart=>exact⟨0,X,a3,a4,c3,c4,zL _,rfl,e4,fh,Z_ (db.o _ e0.o)⟩
 case round=>
  obtain⟨k,s,sa,ad,cs,cd,hk,rfl,bt,HA,bA⟩:=hrel;obtain⟨wo,rfl⟩:∃wo:World,wo=wr:=⟨_,rfl⟩
  obtain⟨fv,e5,e3,eq,sf,-⟩:=HA.o.bo
  by_cases fc:k<n
  ·obtain⟨t,O⟩:=ZN (l:=p) (j:=k) (by rw[<-HN.o.1];exact fc);have dz:=Z_ (AG (g:=gM pts) O);have J:=zP O
   have dt:(Z5 p)[k]? = some ⟨Z8 t.1,t.2⟩:=by
    unfold Z5;rw[yZ,O];rfl
   obtain⟨b,off,vm,vo,rfl,-,hn1,hm1,fq,h1,h2,h3,h4,h5⟩:=(HP.o.on HA.o.ex).cellAt dt;obtain⟨z,m⟩:=t;simp only at h1 h2 h3 h4 h5 J dz;have ep:=Z_ (D.o.can.1 _ J);have eo:=Z_ (MN D.o.can _ J);have bs:=Z_ (D.o.c _ J);have cc:=Z_ (D.o.e _ J);have cC:=Z_ (D.o.v _ J);have aA:Ext wo (wo.alloc (.cells #[.bool (Z8 z).neg,vm,vo] 54)):=uO (uP wo) _
   have CW:=Z_ (Qp (S:=Z2 wo) (.agg #[.bool (Z8 z).neg,vm]) (Z8 z) (wo.alloc (.cells #[.bool (Z8 z).neg,vm,vo] 54)) ⟨vm,rfl,h4.ext aA (λ _ h=>h)⟩ (λ k hk=>zU hk aA.size) (by
    show ZQ z<=_;have h8:=aj.o;have h9:ZQ z<=K:=bs.o
    omega))
   rw[z09]at CW;have d2:=Z_ h5;have bn:=Z_ aA;obtain⟨am,cm,rfl⟩:=h4.form;obtain⟨ao,co,rfl⟩:=h5.form;obtain⟨nz,bx⟩:∃n,n=(Z8 z).mag.length:=⟨_,rfl⟩
   obtain⟨bz,cF⟩:∃n,n=(Z8 z).neg:=⟨_,rfl⟩
   obtain⟨nm,al⟩:∃n,n=m.length:=⟨_,rfl⟩
   obtain⟨x0,bN⟩:∃x:Rat,x=(z:Rat):=⟨_,rfl⟩
   rw[<-bx,<-cF,<-al]at CW bn;rw[<-bx]at h2;rw[<-cF]at h1;rw[<-al]at h3 d2;rw[<-bN]at CW;have d1:=Z_ al;have d7:=Z_ bN
   have hmle:nm<=1000000000:=by
    have h8:=aj.o.1;have h9:m.length<=V:=cC.o;have e6:V*1<=V*(E*4+1):=yV _ (by omega);omega
   clear O dt J h4 h5 aA bx cF al bN fq;go_wp2_with fail;(with_reducible refine CW.o.mono ?_);rintro e w5 ⟨v5,rfl,⟨vn5,vd5,rfl,bg,aN⟩,ar⟩;have HX5:=Z_ (bn.o.trans ar);have d0:=Z_ ar;have fd:=Z_ bg;have fF:=Z_ aN;obtain⟨a5,c5,rfl⟩:=bg.form;obtain⟨a6,c6,rfl⟩:=aN.form
   have fn:Hd (AccAt wo w5.heap.size w5.heap.size (w5.alloc (.cells #[.bool (Z8 x0.num).neg,.slice a5 (Z8 x0.num).mag.length c5,.bool (Z8 (x0.den:Int)).neg,.slice a6 (Z8 (x0.den:Int)).mag.length c6] 30)) x0 a5 a6 c5 c6) :=
    Z_ (AccAt.new bn.o d0.o fd.o fF.o (.inr rfl))
   have k2:=(ar.trans (uO (uP w5) (.cells #[.bool (Z8 x0.num).neg,.slice a5 (Z8 x0.num).mag.length c5,.bool (Z8 (x0.den:Int)).neg,.slice a6 (Z8 (x0.den:Int)).mag.length c6] 30))).new_cell (i:=2) rfl;have ec:Hd (x0=(z:Rat)*gM pts (m.take 0)):=Z_ (by rw[d7.o];exact(vB _).symm);clear bg aN ar h1 h2 h3 CW;go_wp2
   go_loopw [38] (λ j wi=>∃(i:Nat) (x:Rat) (ax ay:Option Addr) (cx cy:Nat),i<=nm/\j=.int .i64 (i:Nat)/\Hd (x=(z:Rat)*gM pts (m.take i))/\Hd (AccAt wo w5.heap.size w5.heap.size wi x ax ay cx cy)) (λ j _=>nm-(intOf j).toNat)
   case atStart=>exact⟨0,x0,a5,a6,c5,c6,zL _,rfl,ec,fn⟩
   case round=>
    obtain⟨i,x,ax,ay,cx,cy,hi,rfl,ae,U⟩:=hrel;clear k2 fv e5 e3 eq sf
    by_cases eB:i<nm
    ·obtain⟨y,hy⟩:=ZN (l:=m) (j:=i) (by rw[<-d1.o];exact eB);obtain⟨bm,om,rfl,-,hm2,hm3,-,-,g1,g2⟩:=(d2.o.ext U.o.ex (λ _ h=>h)).cellAt hy;have bb:=zP hy;have dq:=Px ep.o.2 y bb;have dp:=cc.o y bb;have bf:=Z_ (IE (pts:=pts) hy);obtain⟨v,e⟩:=y;simp only at g1 g2 dq dp bf;obtain⟨en,rfl⟩:∃en:Nat,e=(en:Int):=⟨e.toNat,by omega⟩
     have fk:v<=(nq:Int):=by
      have h8:=D.o.cls;have h9:z1l m<=ZL p:=eo.o;have e6:=HN.o.2.1;omega
     obtain⟨u,hu⟩:∃u:Nat,(u:Int)=v-1:=⟨(v-1).toNat,by omega⟩
     obtain⟨r,hr⟩:=ZN (l:=pts) (j:=u) (by rw[<-HN.o.2.1];omega);have dF:=Z_ (D.o.r r (zP hr))
     have er:Hd (Xh pts (v,(en:Int))=ZS (Z6 r.1) (Z6 r.2)^en):=Z_ (by
      unfold Xh We;simp only[xU];have e1:(v-1).toNat=u:=by omega
      rw[e1,hr])
     have aP:=Z_ (show Ext wr (wr.alloc (.cells #[.int .i64 v,.int .i64 (en:Int)] 56)).drew from uI (uO (uP wr) _));obtain⟨bq,oq,ei,ez,rfl,hq1,hq2,-,q0,q1,q2,q3,q4,q5⟩:=(HQ.o.on ((HA.o.ex.trans U.o.ex).trans aP.o)).cellAt hr;have CP:=Z_ (λ(Y:World) (hY:Ext (wr.alloc (.cells #[.int .i64 v,.int .i64 (en:Int)] 56)).drew Y)=>BF (S:=Z2 Y) (.agg #[.bool r.1.neg,ei,.bool r.2.neg,ez]) r.1 r.2 en 4 Y ⟨_,_,rfl,ZW q4 hY,ZW q5 hY⟩ (λ _ h=>h) (by have:=dF.o;omega) (by have:=dF.o;omega) (by have:=D.o.e1;omega) (by have:=D.o.e1;omega));rw[<-er.o]at CP;obtain⟨f,hf⟩:∃f,f=Xh pts (v,(en:Int)):=⟨_,rfl⟩
     rw[<-hf]at CP bf
     have aB:Hd (Sz 1000000000 f/\Sz 1000000000 x):=Z_ (by
      have b1:=D.o.b;have b2:=aj.o.1;have b3:=D.o.e1
      constructor
      ·rw[hf];exact((ai.o v).pow _).mono (by simp only[xU];omega)
      ·rw[ae.o];have b4:=Qa ai.o (E:=E) (m:=m.take i) (λ y hy=>cc.o y (yU hy));refine((Ra bs.o D.o.k1).mul b4).mono ?_;have b5:(m.take i).length*(E*4+1)<=V*(E*4+1):=zF _ (zT (by rw[zD];exact vw _ _) cC.o)
       omega)
     obtain⟨an,cn,rfl⟩:=q4.form;obtain⟨adn,cdn,rfl⟩:=q5.form;obtain⟨cA,c0,cz,ce,xf,-⟩:=U.o.bo.ext aP.o
     have hwr:IntKind.i64.wrap (v-1)=(u:Int):=by
      rw[<-hu];exact IntWalk.i64_in _ (by omega)
     have hu2:(u:Int)<(nq:Int):=by omega
     have HFE:=Z_ hf;have e7:(wr.alloc (.cells #[.int .i64 v,.int .i64 (en:Int)] 56)).drew.cell? ⟨wr.heap.size,0,none⟩=some (.int .i64 v):=(uI (uP _)).new_cell rfl;have eR:(wr.alloc (.cells #[.int .i64 v,.int .i64 (en:Int)] 56)).drew.cell? ⟨wr.heap.size,1,none⟩=some (.int .i64 (en:Int)):=(uI (uP _)).new_cell rfl;clear hy bb dq dp fk hu hr hf xf q4 q5
     go_upto_block 4 with fail
     go_cut [] (λ wx=>∃(x':Rat) (ch cR:Option Addr) (cg cr:Nat),Hd (x'=x*f)/\Hd (AccAt wo w5.heap.size w5.heap.size wx x' ch cR cg cr))
     case first=>
      go_wp2_with fail
      go_region_with (first
       |(go_at_call 34;(with_reducible refine(CP.o _ (uP _)).mono ?_);rintro e w6 ⟨v6,rfl,⟨vn6,vd6,rfl,ct,ca⟩,dm⟩;have ah:=Z_ (aP.o.trans dm);have I:=P_ (S:=Z2 w6) _ _ _ _ _ _ w6 (U.o.ext ah.o).r ⟨_,_,rfl,YQ ct,YQ ca⟩ (λ _ h=>h) aB.o.2.1 aB.o.2.2 aB.o.1.1 aB.o.1.2;rw[z09,z09,z09,z09,z61,z61]at I;obtain⟨x',cv⟩:∃x',x'=x*f:=⟨_,rfl⟩;rw[<-cv]at I;have ba:=Z_ cv;have CM:=Z_ I;obtain⟨fl,ff,fx,fP,yf,-⟩:=U.o.bo.ext ah.o;obtain⟨a7,c7,rfl⟩:=ct.form;obtain⟨a8,c8,rfl⟩:=ca.form;clear ct ca dm I cv yf)
       |(go_at_call 33;(with_reducible refine CM.o.mono ?_);rintro e w7 ⟨v7,rfl,⟨vn7,vd7,rfl,cQ,aS⟩,cG⟩;have fG:=Z_ cG;have fm:=Z_ cQ;have fA:=Z_ aS;obtain⟨em,ft,et,fz,Z,-⟩:=U.o.bo.ext (ah.o.trans cG);have fR:=Z 0;have eP:=Z 1;have fu:=Z 2;have ed:=Z 3;obtain⟨a9,c9,rfl⟩:=cQ.form;obtain⟨a10,c10,rfl⟩:=aS.form;clear cQ aS cG Z)
       |fail)
      all_goals
       go_wp2_with fail
       go_meet
       exact⟨_,_,_,_,_,ba,Z_ ((U.o.ext ah.o).put fG.o fm.o fA.o)⟩
     case rest=>
      obtain⟨x',ch,cR,cg,cr,ba,eu⟩:=hcut;clear g1 g2 q0 q1 q2 q3 cA c0 cz ce e7 eR;go_wp2
      go_roundw
      case rel=>exact⟨i+1,x',ch,cR,cg,cr,by omega,by go_num,Z_ (by rw[ba.o,ae.o,bf.o,yT]),eu⟩
      case measure=>simp only[intOf];omega
    ·obtain rfl:i=nm:=by omega
     have d4:Hd (x=(z:Rat)*gM pts m):=Z_ (by rw[ae.o,zN (by rw[<-d1.o];exact zR _)])
     have av:Hd (Sz 1000000000 s/\Sz 1000000000 x):=Z_ (by
      have b1:=D.o.b;have b2:=aj.o.1
      constructor
      ·rw[bt.o];have b4:=OK ai.o (K:=K) (E:=E) (V:=V) D.o.k1 (p:=p.take k) (λ t O=>D.o.c t (yU O)) (λ t O=>D.o.e t (yU O)) (λ t O=>D.o.v t (yU O));refine b4.mono (zT ?_ b1);have b5:(p.take k).length<=N:=zT (by rw[zD];exact vw _ _) D.o.n;have b6:(p.take k).length*(K+V*(E*4+1)+2)<=N*(K+V*(E*4+1)+2):=zF _ b5;have b7:(K+V*(E*4+1)+2)*(N+1)=N*(K+V*(E*4+1)+2)+(K+V*(E*4+1)+2):=by rw[zy,wO,zq]
       omega
      ·rw[d4.o];have b4:=Qa ai.o (E:=E) (m:=m) (λ y hy=>cc.o y hy);refine((Ra bs.o D.o.k1).mul b4).mono ?_;have b5:m.length*(E*4+1)<=V*(E*4+1):=zF _ cC.o
       omega)
     have ag:=Z_ (HA.o.ext U.o.ex);have I:=GB (S:=Z2 wr) _ _ _ _ _ _ wr ag.o.r U.o.r (λ _ h=>h) av.o.1.1 av.o.1.2 av.o.2.1 av.o.2.2;rw[z09,z09,z09,z09,z61,z61]at I;obtain⟨s',ci⟩:∃s',s'=s+x:=⟨_,rfl⟩
     rw[<-ci]at I;have f4:=Z_ ci;have CA:=Z_ I;obtain⟨cA,c0,cz,ce,xf,-⟩:=U.o.bo;obtain⟨e9,eg,e2,fg,tf,-⟩:=ag.o.bo;clear I ci xf tf;go_wp2_with fail;(with_reducible refine CA.o.mono ?_);rintro e w8 ⟨v8,rfl,⟨vn8,vd8,rfl,cu,df⟩,bv⟩;have d9:=Z_ bv;have fr:=Z_ cu;have eh:=Z_ df;obtain⟨a8,c8,rfl⟩:=cu.form;obtain⟨a9,c9,rfl⟩:=df.form;obtain⟨em,ft,et,fz,Z,-⟩:=ag.o.bo.ext bv;have fR:=Z 0;have eP:=Z 1;have fu:=Z 2;have ed:=Z 3;clear cu df bv Z cA c0 cz ce e9 eg e2 fg;go_wp2
     go_roundw
     case rel=>
      refine⟨k+1,s',a8,a9,c8,c9,by omega,by go_num,Z_ (by rw[f4.o,bt.o,d4.o,dz.o]),Z_ (ag.o.put d9.o fr.o eh.o),Z_ ((XU (XU bA.o U.o.ex) d9.o).far (λ e=>?_) _ _ _ _)⟩;have h1:=(db.o _ (uP _)).2.2.2.2.2;have h2:=el.o;omega
     case measure=>simp only[intOf];omega
  ·obtain rfl:k=n:=by omega
   have fp:Hd (s=evQ (gM pts) p):=Z_ (by rw[bt.o,zN (by rw[<-HN.o.1];exact zR _)]);obtain⟨fl,ff,fx,fP,yf,-⟩:=bA.o;have f0:=yf 0;have f1:=yf 1;have f2:=yf 2;have f3:=yf 3;clear yf sf;go_wp2
   all_goals
    have hb:=bA.o;have au:=λ x y z t=>X8 x y z t hb.1 hb.2.1 hb.2.2.1 hb.2.2.2.1;refine bodyPost_ret (by simp[results,Tryz.results17,go_sem,(au _ _ _ _).1,(au _ _ _ _).2.1,(au _ _ _ _).2.2.1,(au _ _ _ _).2.2.2];rfl) rfl ?_;refine⟨_,rfl,?_,Ys HA.o.ex (zR _) _ _ _ _⟩;rw[<-fp.o];exact⟨_,_,rfl,(Wa HA.o.o1 (.inl rfl) _ _ _ _).to (uN _ _) (λ k h=>⟨h.1,h.2.1⟩),(Wa HA.o.o2 (.inl rfl) _ _ _ _).to (uN _ _) (λ k h=>⟨h.1,h.2.1⟩)⟩
theorem Au{W:World}{vp vq:Value}{p:PZ}{pts:List (RInt×RInt)}(hp:z06 (Z2 W) W vp (Z5 p))(hq:Rats (Z2 W) W vq pts)(hc:canP p)(hs:Yk (Z5 p))(hcl:(pts.length:Int)<ZL p) :
  Calls Tryz.prog 17 #[vp,vq] W λ e w'=>∃v',e=.returned (.tuple #[v',.int .i64 5])/\v'=.agg #[.bool false,.slice none 0 0,.bool false,.slice none 0 0]/\Ext W w':=by
 have hnot:∀(x:Bool) (w:World),(Op.unary .not (.bool x)).run Tryz.prog w=.ok (.bool (!x)) w:=λ _ _=>rfl;have HP:=Z_ hp;have C1:=Z_ (λ(Y:World) (hY:Ext W Y)=>Wy (S:=Z2 W) vp (Z5 p) Y (HP.o.ext hY (λ _ h=>h)) (λ _ h=>zU h hY.size) hs);have C2:=Z_ (λ(Y:World) (hY:Ext W Y)=>Th (S:=Z2 W) vp (Z5 p) Y (HP.o.ext hY (λ _ h=>h)) (λ _ h=>zU h hY.size) hs);rw[Xc hc]at C1;rw[Tl hc]at C2;have af:=hp.len_le;have ah:=hq.len_le;obtain⟨ap,cp,rfl⟩:=hp.form;obtain⟨aq,cq,rfl⟩:=hq.form;obtain⟨cl,K⟩:∃c,c=ZL p:=⟨_,rfl⟩
 rw[<-K]at C2 hcl;obtain⟨n,hn⟩:∃n,n=(Z5 p).length:=⟨_,rfl⟩
 obtain⟨nq,aa⟩:∃n,n=pts.length:=⟨_,rfl⟩
 rw[<-hn]at HP C1 C2 af⊢;rw[<-aa]at hcl ah⊢;have hdc:decide ((nq:Int)<cl)=true:=decide_eq_true hcl;obtain⟨w0,D⟩:∃Y,Y=W.alloc (.cells #[.bool false,.slice none 0 0,.bool false,.slice none 0 0] 30):=⟨_,rfl⟩
 have X:Hd (Ext W w0):=Z_ (by rw[D];exact uO (uP _) _);have aj:=Z_ (λ(Y:World) (hY:Ext w0 Y)=>WV (w:=W) (W:=Y) (T:=30) (by rw[<-D];exact hY));have U:=Z_ (C1.o w0 X.o);rw[D]at U;have ae:=Z_ D;clear hp hq hcl hn aa K D
 go_enter Tryz.func17,Tryz.ntmps17
 go_wp2_with fail;(with_reducible refine U.o.mono ?_);rintro e w1 ⟨rfl,J⟩;rw[<-ae.o]at J;have ad:=Z_ J;have Z:=Z_ (X.o.trans J);have ag:=Z_ (C2.o w1 Z.o);clear J;go_wp2_with fail;(with_reducible refine ag.o.mono ?_);rintro e w2 ⟨rfl,O⟩;have ai:=Z_ (Z.o.trans O);have ac:=Z_ (aj.o _ (ad.o.trans O));obtain⟨y0c,y1c,y2c,y3c,yf,-⟩:=ac.o;have f0:=yf 0;have f1:=yf 1;have f2:=yf 2;have f3:=yf 3;clear O yf;go_wp2
 all_goals
  have hb:=ac.o;have I:=λ x y z t=>X8 x y z t hb.1 hb.2.1 hb.2.2.1 hb.2.2.2.1;refine bodyPost_ret (by simp[results,Tryz.results17,go_sem,(I _ _ _ _).1,(I _ _ _ _).2.1,(I _ _ _ _).2.2.1,(I _ _ _ _).2.2.2];rfl) rfl ?_;exact⟨_,rfl,rfl,Ys ai.o (zR _) _ _ _ _⟩
end
section
open Go.RowKit Go.Deep
theorem JI{m:Z7}:∀{l:Int},z0d l m=true->∀y∈m,ex m y.1=y.2:=by
 induction m with
 |nil=>exact λ _ y z=>by cases z
 |cons x r ih=>
  intro l h y z;simp only[z0d,zK,decide_eq_true_eq]at h
  rcases zJ.1 z with rfl|z
  ·rw[ex,if_pos rfl]
  ·have h1:=(Px h.2 y z).1;rw[ex,if_neg (by omega)];exact ih h.2 y z
theorem Kv{m:Z7}:∀{l:Int},0<=l->z0d l m=true->(m.length:Int)+l<=max l (z1l m):=by
 induction m with
 |nil=>intro l D _;simp;omega
 |cons x r ih=>
  intro l D h;have z:=Vz h (by simp);simp only[z0d,zK,decide_eq_true_eq]at h;have I:=ih (l:=x.1) (by omega) h.2;rw[zM]
  cases r with
  |nil=>
   have e:z1l [x]=x.1:=rfl;rw[e]at z⊢;simp;omega
  |cons y r=>
   rw[z5q]at z⊢;have h2:=Vz h.2 (by simp);simp only[zM]at I⊢;omega
structure PtFit (pts:List (RInt×RInt)):Prop where
 n:pts.length<=6
 r:∀x∈pts,x.1.mag.length<=3/\x.2.mag.length<=3
def Xp(pts:List (RInt×RInt))(p:PZ):Int×Int:=if ZL p<=pts.length then(Zx (evQ (gM pts) p).num,0) else(0,5)
end
section
section
variable {pts:List (RInt×RInt)}
theorem Me{p q c:PZ}(hp:canP p)(hq:canP q)(h:ZI p q=some c):evQ (gM pts) c=evQ (gM pts) p*evQ (gM pts) q:=by
 obtain⟨h1,rfl⟩:=Vb hp.may hq.may h;rw[O_ (UX h1),ID pts (TM hp.may) (TM hq.may)]
theorem BO(g:Z7->Rat)(p:PZ):evQ g (ZP p) = - evQ g p:=by
 have y:evQ g (ZP p)=(-1)*evQ g p:=by
  unfold ZP
  induction p with
  |nil=>simp[evQ,Rat.mul_zero]
  |cons t r ih=>
   simp only[ya,evQ,ih,uT,Rat.intCast_neg,Rat.neg_mul,wV]
 rw[y,Rat.neg_mul,wV]
theorem Dv{p:PZ}(h:ZD p)(g:Z7->Rat):evQ g (Zr p)=evQ g p:=O_ (UX h) g
theorem KL{keep:Bool}{g q r:PZ}{v:Int}{x:PZ×PZ}(hg:canP g)(hr:canP r)(hv:1<=v/\v<=200)(hd:0<=degP g v)(hs:YA keep g (Zz g v) v (degP g v) q r=some x)(eg:evQ (gM pts) g=0) :
  canP x.2/\evQ (gM pts) x.2=evQ (gM pts) (Zz g v)*evQ (gM pts) r:=by
 have D:canP (Zz g v):=XA hg v _;obtain⟨t,l,m,X,I,z,K,-,-⟩:=Uv hs;have J:canP t:=RI hr hv hd X;have U:canP l:=WP J hg I;have O:canP m:=WP D hr z;rw[K];have y:ZD (m++ZP l):=VS O.may (VE U).may;refine⟨WQ y,?_⟩;rw[Dv y,zbi,BO,Me J hg I,Me D hr z,eg,vY,Rat.neg_zero,Rat.add_zero]
theorem IK{o:Option Nat}{keep:Bool}{g:PZ}{v:Int}(hg:canP g)(hv:1<=v/\v<=200)(hd1:1<=degP g v)(eg:evQ (gM pts) g=0) :
  ∀(k:Nat) (s:MSt) (q r:PZ) (n:Nat),canP r->(runD o keep g (Zz g v) v (degP g v) k s q r n).e=0 ->
   canP (runD o keep g (Zz g v) v (degP g v) k s q r n).r/\∃c:Rat,(evQ (gM pts) (Zz g v)≠0->c≠0)/\evQ (gM pts) (runD o keep g (Zz g v) v (degP g v) k s q r n).r=c*evQ (gM pts) r:=by
 intro k
 induction k with
 |zero=>
  intro s q r n I _;exact⟨I,1,λ _=>by decide,(wV _).symm⟩
 |succ k ih=>
  intro s q r n I
  by_cases D:r=[]∨degP r v<degP g v
  ·intro _;simp only[runD,if_pos D];exact⟨I,1,λ _=>by decide,(wV _).symm⟩
  by_cases z:(z1o o s).1≠0
  ·intro y;simp only[runD,if_neg D,if_pos z]at y;exact absurd y z
  cases hs:YA keep g (Zz g v) v (degP g v) q r with
  |none=>
   intro y;simp only[runD,if_neg D,if_neg z,hs]at y;exact absurd y (by decide)
  |some x=>
   by_cases J:(z1b o (z1o o s).2 x.2).1≠0
   ·intro y;simp only[runD,if_neg D,if_neg z,hs,if_pos J]at y;exact absurd y J
   by_cases K:(z1b o (z1o o s).2 x.1).1≠0
   ·intro y;simp only[runD,if_neg D,if_neg z,hs,if_neg J,if_pos K]at y;exact absurd y K
   simp only[runD,if_neg D,if_neg z,hs,if_neg J,if_neg K];intro y;obtain⟨c2,U⟩:=KL (pts:=pts) hg I hv (by omega) hs eg;obtain⟨c3,c,X,O⟩:=ih _ x.1 x.2 _ c2 y
   refine⟨c3,c*evQ (gM pts) (Zz g v),λ h0 e=>?_,?_⟩
   ·rcases Rat.mul_eq_zero.1 e with e|e
    ·exact X h0 e
    ·exact h0 e
   ·rw[O,U,yT]
end
theorem Dz{pts:List (RInt×RInt)}{p:PZ}(h:(Xp pts p).2=0):(Xp pts p).1=0↔evQ (gM pts) p=0:=by
 unfold Xp at h⊢
 split
 ·show Zx _=0↔_;unfold Zx;rw[z7u,Rat.num_eq_zero]
 ·rename_i h1
  rw[if_neg h1]at h
  cases h
end
section
open Go.RowKit
theorem G_(g:Z7->Rat)(c:Int):∀l:PZ,(∀t∈l,c∣t.1)->evQ g l=(c:Rat)*evQ g (l.map λ t=>(t.1 / c,t.2)):=by
 intro l
 induction l with
 |nil=>intro _;simp[evQ,Rat.mul_zero]
 |cons t r ih=>
  intro h;have z:t.1=c*(t.1 / c):=(Int.mul_ediv_cancel' (h t (zz ..))).symm;have y:(t.1:Rat)=(c:Rat)*((t.1 / c:Int):Rat):=by rw[<-xk,<-z]
  simp only[ya,evQ];rw[ih (λ u hu=>h u (yX _ hu)),y,uT,yT]
theorem LF{g:Z7->Rat}{p:PZ}(h:canP p)(e:evQ g p=0):evQ g (Yf p)=0:=by
 by_cases z:p=[]
 ·rw[z];rfl
 ·have D:=G_ g (Yq p) p (λ t ht=>Q2 ht);rw[e]at D
  rcases Rat.mul_eq_zero.1 D.symm with y|y
  ·exact absurd (ww.1 y) (Pv h z)
  ·exact y
structure Good27 (pts:List (RInt×RInt)) (d:DZ):Prop where
 fit:Fit 45 100000 d.P
 ex:exB 100 d.P
 cls:ZL d.P<=pts.length
 ev:evQ (gM pts) d.P=0
structure Hyp27 (pts:List (RInt×RInt)) (p:PZ):Prop where
 fit:Fit 2 5 p
 ex:exB 3 p
 cls:ZL p<=pts.length
 ev:evQ (gM pts) p=0
theorem IP(pts:List Int){a:Nat}(h:a<=pts.length):a<=Zc pts a/\Zc pts a<=pts.length:=by
 unfold Zc;have h1:=OO (pts.getD a 0) (pts.drop a);rw[yG]at h1;omega
section
variable {pts:List (RInt×RInt)}
theorem TS{ps:List PZ}{i:Nat}(h:Hyp27 pts (ps.getD i [])):Good27 pts (Zo ps i) :=
 ⟨h.fit.whole.mono (by decide) (by decide),h.ex.whole.le (by decide),by show ZL (Yf _)<=_;rw[Nz];exact h.cls,LF h.fit.can h.ev⟩
theorem Hz{b m:Nat}{s:MSt}{F G:DZ}(hs:s.Ok)(hf:s.fu<=20)(aF:AOk F m)(aG:AOk G m)(gF:Good27 pts F)(gG:Good27 pts G)(hc:0<ZY G)(hcl:ZY F=ZY G)(hm:m<=1000)(h0:(YP (some b) s F [G]).1=0):Good27 pts (YP (some b) s F [G]).2.2:=by
 obtain⟨Q,h1⟩:=Qy (b:=b) hs hf aF aG hc hm;obtain⟨-,-,O⟩:=h1 h0
 have z:(YP (some b) s F [G]).2.2.P=Yf (Zw (some b) s F [G]).2.2.1:=by
  unfold YP at h0⊢
  by_cases J:(Zw (some b) s F [G]).1≠0
  ·rw[if_pos J]at h0;exact absurd h0 J
  rw[if_neg J]at h0⊢
  by_cases K:(YN (some b) s F [G]).1.1≠0
  ·rw[if_pos K]at h0;exact absurd h0 K
  rw[if_neg K];rfl
 have U:1<=ZL G.P/\ZL G.P<=200:=⟨hc,(VK aG.P.can).2⟩
 have X:1<=degP G.P (ZL G.P):=PS aG.P.can hc;have hi:=O.inr;have hst:=hi.st;obtain⟨c1,c,-,Z⟩:=IK (pts:=pts) (o:=some b) (keep:=true) aG.P.can U X gG.ev _ s [] F.P 0 aF.P.can O.run.2
 have D:evQ (gM pts) (Zw (some b) s F [G]).2.2.1=0:=by
  rw[O.run.1];show evQ (gM pts) (runD (some b) true G.P (Zz G.P (ZL G.P)) (ZL G.P) (degP G.P (ZL G.P)) _ s [] F.P 0).r=0;rw[Z,gF.ev,vY]
 have y:ZL (Zw (some b) s F [G]).2.2.1<=ZL G.P:=by
  rcases wX (ZL G.P) (ZL (Zw (some b) s F [G]).2.2.1) with h|h
  ·exfalso
   have hu:=Fu (b:=b) (keep:=true) (u:=ZL (Zw (some b) s F [G]).2.2.1) (E:=0) aG.P.can U (by omega) (λ t ht=>MX aG.P.can ht h) (by omega) _ s [] F.P 0 z3a aF.P.can (λ t ht=>by
    have I:ZL F.P<ZL (Zw (some b) s F [G]).2.2.1:=by
     have e:ZL F.P=ZL G.P:=hcl;omega
    rw[MX aF.P.can ht I]
    exact yi _) O.run.2
   have hdeg:=UM (p:=(Zw (some b) s F [G]).2.2.1) (v:=ZL (Zw (some b) s F [G]).2.2.1) (d:=0) (yi _) (λ t ht=>by
    rw[O.run.1]at ht
    exact hu t ht)
   have hpos:=PS hi.can (by omega);omega
  ·exact h
 refine⟨?_,?_,?_,?_⟩
 ·rw[z];exact(hi.fit TP).whole
 ·rw[z];refine hi.ex.whole.le ?_;have e:((3:Nat):Int)=3:=rfl;rw[e];omega
 ·rw[z,Nz];exact Int.le_trans y gG.cls
 ·rw[z];exact LF hi.can D
theorem NV{f g:DZ}{m:Nat}{v:Int}(af:AOk f m)(ag:AOk g m)(gf:Good27 pts f)(gg:Good27 pts g)(hc:ZY f=ZY g) :
  AOk (YX v f g).1 m/\AOk (YX v f g).2 m/\Good27 pts (YX v f g).1/\Good27 pts (YX v f g).2/\ZY (YX v f g).1=ZY f/\ZY (YX v f g).2=ZY f:=by
 unfold YX
 split
 ·exact⟨ag,af,gg,gf,hc.symm,rfl⟩
 ·exact⟨af,ag,gf,gg,rfl,hc.symm⟩
theorem LZ{b m:Nat}{s:MSt}{f g:DZ}(hs:s.Ok)(hf:s.fu<=20)(af:AOk f m)(ag:AOk g m)(gf:Good27 pts f)(gg:Good27 pts g)(hm:m<=1000) :
  T9 (some b) s f g/\((YB (some b) s f g).1=0->((YB (some b) s f g).2.1.Ok/\(YB (some b) s f g).2.1.fu<=20)/\∀d∈(YB (some b) s f g).2.2,Good27 pts d):=by
 have hr:=VK af.P.can
 refine⟨λ D X=>?_,λ h=>?_⟩
 ·obtain⟨I,O,Z,U,p5,K⟩:=NV (v:=ZY f) af ag gf gg D;exact(Qy hs hf I O (by rw[K];have:0<=ZY f:=hr.1;omega) hm).1
 ·unfold YB at h⊢
  by_cases D:ZY f≠ZY g
  ·rw[if_pos D];refine⟨⟨hs,hf⟩,λ d y=>?_⟩;simp only at y
   split at y
   ·rcases zJ.1 y with rfl|y
    ·exact gg
    ·rw[zQ.1 y];exact gf
   ·rcases zJ.1 y with rfl|y
    ·exact gf
    ·rw[zQ.1 y];exact gg
  rw[if_neg D]at h⊢
  by_cases X:ZY f=0
  ·rw[if_pos X];refine⟨⟨hs,hf⟩,λ d y=>?_⟩
   rcases zJ.1 y with rfl|y
   ·exact gf
   ·rw[zQ.1 y];exact gg
  rw[if_neg X]at h⊢;obtain⟨I,O,Z,U,p5,K⟩:=NV (v:=ZY f) af ag gf gg (zx.1 D);have z:0<ZY (YX (ZY f) f g).2:=by rw[K];have:0<=ZY f:=hr.1;omega
  by_cases J:(YP (some b) s (YX (ZY f) f g).1 [(YX (ZY f) f g).2]).1≠0
  ·rw[if_pos J]at h;exact absurd h J
  ·rw[if_neg J];have h4:=zx.1 J;obtain⟨-,h5⟩:=Qy hs hf I O z hm;obtain⟨o1,o2,-⟩:=h5 h4;refine⟨⟨o1,o2⟩,λ d y=>?_⟩
   rcases zJ.1 y with rfl|y
   ·exact Hz hs hf I O Z U z (p5.trans K.symm) hm h4
   ·rw[zQ.1 y];exact U
end
theorem Gm{pts:List (RInt×RInt)}{b:Nat}{ps:List PZ}(h:∀i,i<ps.length->Hyp27 pts (ps.getD i []))(hm:ps.length<=1000):Ur (some b) ps (λ s=>s.Ok/\s.fu<=20):=λ s i hI hi=>by
 have h1:=h i (by omega);have h2:=h (i+1) hi;obtain⟨p1,p2⟩:=LZ (b:=b) hI.1 hI.2 (Vr h1.fit h1.ex) (Vr h2.fit h2.ex) (TS h1) (TS h2) hm;exact⟨p1,λ e=>(p2 e).1⟩
theorem DE{P:DZ->Prop}{many:Nat}:∀(l:List DZ) (a:List DZ×Int),(∀d∈l,P d)->(∀d∈a.1,P d)->∀d∈(Yw many l a).2.1,P d:=by
 intro l
 induction l with
 |nil=>intro a _ h;exact h
 |cons x r ih=>
  intro a z D;rw[Yw]
  split
  ·exact D
  ·refine ih _ (λ d y=>z d (yX _ y)) (λ d y=>?_)
   rcases zC.1 y with y|y
   ·exact D d y
   ·rw[zQ.1 y];exact z x (zz ..)
theorem Hr{pts:List (RInt×RInt)}{b:Nat}{ps:List PZ}{ptn:List Int}(h:∀i,i<ps.length->Hyp27 pts (ps.getD i []))(hm:ps.length<=1000)(hl:ptn.length=ps.length) :
  ∀(k at':Nat) (a:List DZ×Int) (s:MSt),(s.Ok/\s.fu<=20)->(∀d∈a.1,Good27 pts d)->(triL (some b) ps ptn k at' a s).1=0->∀d∈(triL (some b) ps ptn k at' a s).2.2.1,Good27 pts d:=by
 intro k
 induction k with
 |zero=>intro at' a s _ _ _ d z;cases z
 |succ k ih=>
  intro at' a s K U;rw[triL]
  by_cases X:ptn.length<=at'
  ·rw[if_pos X];intro _;exact U
  rw[if_neg X]
  have y:∀d∈ownT ps ptn at',∃i,i<ps.length/\d=Zo ps i:=λ d z=>by
   unfold ownT at z;obtain⟨j,I,rfl⟩:=zG.1 z;have hj2:=List.mem_range.1 I;have he:=(IP ptn (a:=at') (by omega))
   exact⟨at'+j,by omega,rfl⟩
  have D:(Yd (some b) s (ownT ps ptn at')).1=0->((Yd (some b) s (ownT ps ptn at')).2.1.Ok/\(Yd (some b) s (ownT ps ptn at')).2.1.fu<=20)/\∀d∈(Yd (some b) s (ownT ps ptn at')).2.2,Good27 pts d:=by
   generalize ownT ps ptn at'=own at y;unfold Yd
   split
   ·rename_i f g
    intro e;obtain⟨i,hi,rfl⟩:=y f (zz ..);obtain⟨j,I,rfl⟩:=y g (yX _ (zz ..));exact(LZ K.1 K.2 (Vr (h i hi).fit (h i hi).ex) (Vr (h j I).fit (h j I).ex) (TS (h i hi)) (TS (h j I)) hm).2 e
   ·intro _;refine⟨K,λ d z=>?_⟩;obtain⟨i,hi,rfl⟩:=y d z;exact TS (h i hi)
  by_cases J:(Yd (some b) s (ownT ps ptn at')).1≠0
  ·rw[if_pos J];intro e;exact absurd e J
  rw[if_neg J];obtain⟨q1,Z⟩:=D (zx.1 J)
  by_cases O:(Yw (Yd (some b) s (ownT ps ptn at')).2.2.length (Yd (some b) s (ownT ps ptn at')).2.2 a).1=false
  ·rw[if_pos O];intro _ d z
   cases z
  ·rw[if_neg O];exact ih _ _ _ q1 (DE _ _ Z U)
end
section
open Go.RowKit Go.Deep
theorem Hc{W:World}{vp vq:Value}{p:List RTerm}{pts:List (RInt×RInt)}(hp:z06 (Z2 W) W vp p)(hq:Rats (Z2 W) W vq pts)(hs:Yk p)(hm:ZR p=false) :
  Calls Tryz.prog 17 #[vp,vq] W λ e w'=>∃v',e=.returned (.tuple #[v',.int .i64 2])/\v'=.agg #[.bool false,.slice none 0 0,.bool false,.slice none 0 0]/\Ext W w':=by
 have hnot:∀(x:Bool) (w:World),(Op.unary .not (.bool x)).run Tryz.prog w=.ok (.bool (!x)) w:=λ _ _=>rfl;have HP:=Z_ hp;have C1:=Z_ (λ(Y:World) (hY:Ext W Y)=>Wy (S:=Z2 W) vp p Y (HP.o.ext hY (λ _ h=>h)) (λ _ h=>zU h hY.size) hs);rw[hm]at C1;have ad:=hp.len_le;have ae:=hq.len_le;obtain⟨ap,cp,rfl⟩:=hp.form;obtain⟨aq,cq,rfl⟩:=hq.form;obtain⟨n,hn⟩:∃n,n=p.length:=⟨_,rfl⟩
 obtain⟨nq,U⟩:∃n,n=pts.length:=⟨_,rfl⟩
 rw[<-hn]at HP C1 ad⊢;rw[<-U]at ae⊢;obtain⟨w0,D⟩:∃Y,Y=W.alloc (.cells #[.bool false,.slice none 0 0,.bool false,.slice none 0 0] 30):=⟨_,rfl⟩
 have O:Hd (Ext W w0):=Z_ (by rw[D];exact uO (uP _) _);have ag:=Z_ (λ(Y:World) (hY:Ext w0 Y)=>WV (w:=W) (W:=Y) (T:=30) (by rw[<-D];exact hY));have K:=Z_ (C1.o w0 O.o);rw[D]at K;have ac:=Z_ D;clear hp hq hn U D hm hs
 go_enter Tryz.func17,Tryz.ntmps17
 go_wp2_with fail;(with_reducible refine K.o.mono ?_);rintro e w1 ⟨rfl,J⟩;rw[<-ac.o]at J;have aa:=Z_ J;have af:=Z_ (O.o.trans J);have Z:=Z_ (ag.o _ aa.o);obtain⟨y0c,y1c,y2c,y3c,X,-⟩:=Z.o;have f0:=X 0;have f1:=X 1;have f2:=X 2;have f3:=X 3;clear J X;go_wp2
 all_goals
  have hb:=Z.o;have I:=λ x y z t=>X8 x y z t hb.1 hb.2.1 hb.2.2.1 hb.2.2.2.1;refine bodyPost_ret (by simp[results,Tryz.results17,go_sem,(I _ _ _ _).1,(I _ _ _ _).2.1,(I _ _ _ _).2.2.1,(I _ _ _ _).2.2.2];rfl) rfl ?_;exact⟨_,rfl,rfl,Ys af.o (zR _) _ _ _ _⟩
theorem Fp{pts:List (RInt×RInt)}{p:PZ}(P:PtFit pts)(h:Fit 50 100000 p)(he:exB 100 p)(hc:ZL p<=pts.length):AtFit pts p 50 100 6 100000:=by
 refine⟨h.can,hc,λ t ht=>?_,λ t ht y hy=>?_,λ t ht=>?_,h.2.2,P.r,by decide,by decide,by decide⟩
 ·exact Xm (h.2.1 t ht)
 ·rw[<-JI (h.can.1 t ht).2 y hy];exact he t ht _
 ·have h1:=Kv (yi 0) (h.can.1 t ht).2;have h2:=MN h.can t ht;have h3:=P.n;have h4:=(Sm (h.can.1 t ht).2).1;omega
theorem MD{W:World}{vp vq:Value}{p:PZ}{pts:List (RInt×RInt)}(hp:z06 (Z2 W) W vp (Z5 p))(hq:Rats (Z2 W) W vq pts)(P:PtFit pts)(h:Fit 50 100000 p)(he:exB 100 p) :
  Calls Tryz.prog 6 #[vp,vq] W λ e w'=>e=.returned (.tuple #[.int .i64 (Xp pts p).1,.int .i64 (Xp pts p).2])/\Ext W w':=by
 by_cases hc:ZL p<=pts.length
 ·have F:=Fp P h he hc;have J:=OK (Nx hq.lt F.r) F.k1 F.c F.e F.v;obtain⟨s,Z⟩:∃s,s=evQ (gM pts) p:=⟨_,rfl⟩
  have X:=Z_ (IJ hp hq F)
  have e1:Xp pts p=(Zx s.num,0):=by
   unfold Xp;rw[if_pos hc,Z]
  rw[e1];rw[<-Z]at X J
  have ac:Hd (Sz 1000000000 s):=Z_ (J.mono (by
   have h1:p.length*(50+6*(100*4+1)+2)<=100000*(50+6*(100*4+1)+2):=zF _ F.n
   omega))
  obtain⟨ap,cp,rfl⟩:=hp.form;obtain⟨aq,cq,rfl⟩:=hq.form;obtain⟨n,O⟩:∃n,n=(Z5 p).length:=⟨_,rfl⟩
  obtain⟨nq,y⟩:∃n,n=pts.length:=⟨_,rfl⟩
  rw[<-O,<-y]at X;rw[<-O,<-y];clear hp hq F J Z e1 O y hc P h he
  go_enter Tryz.func6,Tryz.ntmps6
  go_wp2_with fail;(with_reducible refine X.o.mono ?_);rintro e w1 ⟨v1,rfl,⟨ad,ae,rfl,U,I⟩,z⟩;have K:=Z_ z;have D:=λ C=>uO (uP w1) C;have CS:=Z_ (λ C=>Aa (S:=New W w1) (.agg #[.bool (Z8 s.num).neg,ad,.bool (Z8 (s.den:Int)).neg,ae]) (Z8 s.num) (Z8 (s.den:Int)) (w1.alloc C) ⟨_,_,rfl,U.ext (D C) uK,I.ext (D C) uK⟩ (λ k hk=>zU hk.2 (D C).size) (zT ac.o.1 (by decide)) (zT ac.o.2 (by decide)));rw[z09,z09,z61]at CS;obtain⟨a1,c1,rfl⟩:=U.form;obtain⟨a2,c2,rfl⟩:=I.form;clear U I z D;go_wp2_with fail;(with_reducible refine(CS.o _).mono ?_);rintro e w2 ⟨rfl,aa⟩;have af:=Z_ (K.o.trans ((uO (uP w1) _).trans aa));clear aa;go_wp2
  all_goals
   go_ret2;exact⟨rfl,af.o⟩
 ·have Z:Yk (Z5 p):=h.small (by decide);have X:=Z_ (Au hp hq h.can Z (by omega))
  have e1:Xp pts p=(0,5):=by
   unfold Xp;rw[if_neg hc]
  rw[e1];obtain⟨ap,cp,rfl⟩:=hp.form;obtain⟨aq,cq,rfl⟩:=hq.form;obtain⟨n,O⟩:∃n,n=(Z5 p).length:=⟨_,rfl⟩
  obtain⟨nq,y⟩:∃n,n=pts.length:=⟨_,rfl⟩
  rw[<-O,<-y]at X;rw[<-O,<-y];clear hp hq e1 O y hc P h he Z
  go_enter Tryz.func6,Tryz.ntmps6
  go_wp2_with fail;(with_reducible refine X.o.mono ?_);rintro e w1 ⟨v1,rfl,rfl,z⟩;have K:=Z_ (z.trans (uO (uP w1) (.cells #[.bool false,.slice none 0 0,.bool false,.slice none 0 0] 30)));clear z;go_wp2
  all_goals
   go_ret2;exact⟨rfl,K.o⟩
theorem Ig{W:World}{vp vq:Value}{p:List RTerm}{pts:List (RInt×RInt)}(hp:z06 (Z2 W) W vp p)(hq:Rats (Z2 W) W vq pts)(hs:Yk p)(hm:ZR p=false) :
  Calls Tryz.prog 6 #[vp,vq] W λ e w'=>e=.returned (.tuple #[.int .i64 0,.int .i64 2])/\Ext W w':=by
 have J:=Z_ (Hc hp hq hs hm);obtain⟨ap,cp,rfl⟩:=hp.form;obtain⟨aq,cq,rfl⟩:=hq.form;obtain⟨n,I⟩:∃n,n=p.length:=⟨_,rfl⟩
 obtain⟨nq,y⟩:∃n,n=pts.length:=⟨_,rfl⟩
 rw[<-I,<-y]at J;rw[<-I,<-y];clear hp hq I y hs hm
 go_enter Tryz.func6,Tryz.ntmps6
 go_wp2_with fail;(with_reducible refine J.o.mono ?_);rintro e w1 ⟨v1,rfl,rfl,z⟩;have D:=Z_ (z.trans (uO (uP w1) (.cells #[.bool false,.slice none 0 0,.bool false,.slice none 0 0] 30)));clear z;go_wp2
 all_goals
  go_ret2;exact⟨rfl,D.o⟩
def Vi(pts:List (RInt×RInt))(p:List RTerm):Int×Int:=if ZR p=true then Xp pts (Zt p) else(0,2)
theorem Im{W:World}{vp vq:Value}{p:List RTerm}{pts:List (RInt×RInt)}(hp:z06 (Z2 W) W vp p)(hq:Rats (Z2 W) W vq pts)(P:PtFit pts)(hs:Yk p)(h:ZR p=true->Fit 50 100000 (Zt p)/\exB 100 (Zt p)) :
  Calls Tryz.prog 6 #[vp,vq] W λ e w'=>e=.returned (.tuple #[.int .i64 (Vi pts p).1,.int .i64 (Vi pts p).2])/\Ext W w':=by
 unfold Vi
 cases hm:ZR p with
 |true=>
  rw[if_pos rfl];have e:=Oj hp hm;obtain⟨z,y⟩:=h hm;rw[e]at hp;exact MD hp hq P z y
 |false=>
  rw[if_neg (by decide)];exact Ig hp hq hs hm
end
section
open Go.RowKit
end
section
open Go.RowKit
end
section
open Go.RowKit Go.Shelf
theorem EK{W:World}{vm:Value}{z:Int}{ng:Bool}(hz:U32s (Z2 W) W vm (Z8 z).mag)(hng:ng=(Z8 z).neg)(h0:0<z)(hl:ZX z<=1000000) :
  Calls Tryz.prog 115 #[.agg #[ng |> Value.bool,vm]] W λ e w'=>e=.returned (.bool true)/\Ext W w':=by
 have y:=Z_ (uO (uP W) (.cells #[.bool ng,vm] 28));have O:=Z_ (Vy (S:=Z2 (W.alloc (.cells #[.bool ng,vm] 28))) (.agg #[.bool ng,vm]) (Z8 z) (W.alloc (.cells #[.bool ng,vm] 28)) ⟨vm,by rw[hng],ZW hz y.o⟩ (λ _ h=>h));rw[LT]at O;have U:=Z_ (λ(Y:World) (hY:Ext W Y)=>X5 (S:=Z2 Y) (.agg #[.bool ng,vm]) (Z8 z) Y ⟨vm,by rw[hng],ZW hz hY⟩ (λ _ h=>h) (zT hl (by decide)));rw[z09,show Zx z=1 by unfold Zx cmpI;rw[if_neg (by omega),if_pos h0]]at U;obtain⟨az,cz,rfl⟩:=hz.form;obtain⟨nz,D⟩:∃n,n=(Z8 z).mag.length:=⟨_,rfl⟩
 rw[<-D]at O U y;rw[<-D];have HC:=Z_ (λ(Y:World) (h:Ext (W.alloc (.cells #[.bool ng,.slice az nz cz] 28)) Y)=>zS (h.new_cell (i:=0) rfl) (h.new_cell (i:=1) rfl));clear hz hng h0 hl D
 go_enter Tryz.func115,Tryz.ntmps115
 go_wp2_with fail;(with_reducible refine O.o.mono ?_);rintro e w1 ⟨rfl,I⟩;have K:=Z_ (y.o.trans I);have X:=Z_ (U.o w1 K.o);obtain⟨c0,c1⟩:=HC.o w1 I;clear I;go_wp2_with fail;(with_reducible refine X.o.mono ?_);rintro e w2 ⟨rfl,J⟩;have Z:=Z_ (K.o.trans J);clear J;go_wp2
 all_goals
  go_ret;exact⟨rfl,Z.o⟩
theorem Cf{S:Nat->Prop}{W:World}{v:Value}{d:DZ}{m bm:Nat}(hd:DerV S W v d)(hS:∀k,S k->k<W.heap.size)(ok:DOk d m)(hb:W.cell? ⟨bm,0,none⟩=some (.int .i64 (m:Nat))) :
  Calls Tryz.prog 114 #[v,.pointer (some ⟨bm,0,none⟩)] W λ e w'=>e=.returned (.bool false)/\Ext W w':=by
 have hnot:∀(x:Bool) (w:World),(Op.unary .not (.bool x)).run Tryz.prog w=.ok (.bool (!x)) w:=λ _ _=>rfl;obtain⟨vn,vp,vb,rfl,ac,af,ag⟩:=hd;obtain⟨kP,nP,fP,az,ax⟩:=ok.P;obtain⟨kB,nB,fB,au,ay⟩:=ok.B;have O:U32s (Z2 W) W vn (Z8 d.N).mag:=ac.to (uN _ _) hS;have K:z06 (Z2 W) W vp (Z5 d.P):=af.to (uN _ _) hS;have J:z1w (Z2 W) W vb (d.By.map Z5):=ag.to (uN _ _) hS
 have ai:US (d.By.map Z5):=λ p hp=>by
  obtain⟨b,hb,rfl⟩:=zG.1 hp;exact(fB b hb).small (by omega)
 have CM:=Z_ (λ(Y:World) (hY:Ext W Y)=>Um (W:=Y) (z06.on K hY) fP (by omega));have CA:=Z_ (λ(Y:World) (hY:Ext W Y)=>Pr (S:=Z2 Y) vb (d.By.map Z5) Y (z1w.on J hY) (λ _ h=>h) ai);rw[show(d.By.map Z5).all ZR=true from xb.2 (λ p hp=>by obtain⟨b,hb,rfl⟩:=zG.1 hp;exact Xc (fB b hb).can)]at CA;have CN:=Z_ (λ(Y:World) (hY:Ext W Y)=>EK (W:=Y) (ZW O hY) rfl ok.pos (zT ok.len (by decide)));have aA:Hd (m=d.By.length):=Z_ ok.m.symm;obtain⟨an,cn,rfl⟩:=ac.form;obtain⟨ap,cp,rfl⟩:=af.form;obtain⟨ar,cb,rfl⟩:=ag.form;obtain⟨nn,aa⟩:∃z,z=(Z8 d.N).mag.length:=⟨_,rfl⟩
 obtain⟨bn,ae⟩:∃z,z=(Z8 d.N).neg:=⟨_,rfl⟩
 obtain⟨np,X⟩:∃z,z=(Z5 d.P).length:=⟨_,rfl⟩
 have ad:(d.By.map Z5).length=m:=by rw[zE,aA.o]
 rw[<-aa,<-ae]at CN;rw[<-X]at CM;rw[ad]at CA;rw[<-aa,<-ae,<-X,ad];obtain⟨T,hT⟩:∃Y,Y=W.alloc (.cells #[.bool bn,.slice an nn cn,.slice ap np cp,.slice ar m cb] 48):=⟨_,rfl⟩
 have y:Hd (Ext W T):=Z_ (by rw[hT];exact uO (uP W) _)
 have HC:=Z_ (λ(Y:World) (h:Ext T Y)=>by
  rw[hT]at h;have k:=λ i v hv=>h.new_cell (i:=i) (v:=v) hv
  exact k)
 have HB:=Z_ hb;have U:=Z_ (CM.o T y.o);rw[hT]at U;have HT:=Z_ hT;have c0:=HC.o T (uP _) 2 _ rfl;rw[hT]at c0;clear ac af ag O K J fP fB az ax au ay aa ae X ad hb ai hT ok hS
 go_enter Tryz.func114,Tryz.ntmps114
 go_wp2_with fail;(with_reducible refine U.o.mono ?_);rintro e w1 ⟨rfl,D⟩;rw[<-HT.o]at D;have av:=Z_ D;have c2:=HC.o w1 D 3 _ rfl;have al:=Z_ (CA.o w1 (y.o.trans D));clear D c0 U;go_wp2_with fail;(with_reducible refine al.o.mono ?_);rintro e w2 ⟨rfl,ah⟩;have I:=Z_ (av.o.trans ah);have c0:=HC.o w2 I.o 0 _ rfl;have c1:=HC.o w2 I.o 1 _ rfl;have aj:=Z_ (CN.o w2 (y.o.trans I.o));clear ah c2 al;go_wp2_with fail;(with_reducible refine aj.o.mono ?_);rintro e w3 ⟨rfl,aq⟩;have Z:=Z_ (I.o.trans aq);have c2:=HC.o w3 Z.o 3 _ rfl;have c4:=(y.o.trans Z.o).cell HB.o;clear aq c0 c1 aj;go_wp2
 all_goals
  go_ret;exact⟨by first|rfl|simp,y.o.trans Z.o⟩
theorem Cq{S:Nat->Prop}{bm m:Nat}(ls:List DZ)(v:Value)(w:World)(h:Ders S w v ls)(hS:∀k,S k->k<w.heap.size)(hok:∀d∈ls,DOk d m)(hb:w.cell? ⟨bm,0,none⟩=some (.int .i64 (m:Nat))) :
  Calls Tryz.prog 141 #[v,.func (.func 114) #[] #[.pointer (some ⟨bm,0,none⟩)]] w λ e w'=>e=.returned (.int .i64 (-1))/\Ext w w':=by
 have HP:=Z_ h;have HI:=Z_ (λ(Y:World) (hY:Ext w Y) (d:DZ) (vd:Value) (O:d∈ls) (hv:DerV S Y vd d)=>Cf (bm:=bm) hv (λ k hk=>zU (hS k hk) hY.size) (hok d O) (hY.cell hb));have ac:=h.len_le;obtain⟨a,c,rfl⟩:=h.form;obtain⟨n,hn⟩:∃n,n=ls.length:=⟨_,rfl⟩
 rw[<-hn]at HP ac⊢;have HN:=Z_ hn;have HS:=Z_ hS;clear h hn hok hb hS
 go_enter Tryz.func141,Tryz.ntmps141
 go_wp2
 go_loopw [8] (λ i wr=>∃k:Nat,k<=n/\i=.int .i64 (k:Nat)/\Hd (Ext w wr)) (λ i _=>n-(intOf i).toNat)
 case atStart=>exact⟨0,zL _,rfl,Z_ (uP _)⟩
 case round=>
  obtain⟨k,hk,rfl,X⟩:=hrel
  by_cases Z:k<n
  ·obtain⟨d,O⟩:=ZN (l:=ls) (j:=k) (by rw[<-HN.o];exact Z);obtain⟨b,o,vm,vp,vb,rfl,-,h2,h3,-,h5,h6,h7,h8,h9,D,I⟩:=(HP.o.ext X.o HS.o).cellAt O;have CP:=Z_ (HI.o wr X.o d _ (zP O) ⟨vm,vp,vb,rfl,h9,D,I⟩);obtain⟨am,cm,rfl⟩:=h9.form;obtain⟨ap,cp,rfl⟩:=D.form;obtain⟨ab,cb,rfl⟩:=I.form;obtain⟨nm,J⟩:∃n,n=(Z8 d.N).mag.length:=⟨_,rfl⟩
   obtain⟨bm,y⟩:∃n,n=(Z8 d.N).neg:=⟨_,rfl⟩
   obtain⟨np,z⟩:∃n,n=(Z5 d.P).length:=⟨_,rfl⟩
   obtain⟨nb,K⟩:∃n,n=(d.By.map Z5).length:=⟨_,rfl⟩
   rw[<-J,<-y,<-z,<-K]at CP;rw[<-J]at h6;rw[<-y]at h5;rw[<-z]at h7;rw[<-K]at h8;clear O h9 D I J y z K;go_wp2_with fail;(with_reducible refine CP.o.mono ?_);rintro e w1 ⟨rfl,U⟩;have aa:=Z_ (X.o.trans U);clear U;go_wp2
   go_roundw
   case rel=>exact⟨k+1,by omega,by go_num,aa⟩
   case measure=>simp only[intOf];omega
  ·obtain rfl:k=n:=by omega
   go_wp2
   all_goals
    go_ret;exact⟨rfl,X.o⟩
theorem IL{S:Nat->Prop}{bm m:Nat}(ls:List DZ)(v:Value)(w:World)(h:Ders S w v ls)(hS:∀k,S k->k<w.heap.size)(hok:∀d∈ls,DOk d m)(hb:w.cell? ⟨bm,0,none⟩=some (.int .i64 (m:Nat))) :
  Calls Tryz.prog 113 #[v,.func (.func 114) #[] #[.pointer (some ⟨bm,0,none⟩)]] w λ e w'=>e=.returned (.bool false)/\Ext w w':=by
 have D:=Z_ (Cq ls v w h hS hok hb);obtain⟨a,c,rfl⟩:=h.form;obtain⟨n,I⟩:∃n,n=ls.length:=⟨_,rfl⟩
 rw[<-I]at D⊢;clear h I hok hb hS
 go_enter Tryz.func113,Tryz.ntmps113
 go_wp2_with fail;(with_reducible refine D.o.mono ?_);rintro e w1 ⟨rfl,y⟩;have z:=Z_ y;clear y;go_wp2
 all_goals
  go_ret;exact⟨rfl,z.o⟩
theorem Da{S:Nat->Prop}{m:Nat}(ls:List DZ)(v:Value)(w:World)(h:Ders S w v ls)(hS:∀k,S k->k<w.heap.size)(hok:∀d∈ls,DOk d m) :
  Calls Tryz.prog 76 #[v,.int .i64 (m:Nat)] w λ e w'=>e=.returned (.bool true)/\Ext w w':=by
 have hnot:∀(x:Bool) (w:World),(Op.unary .not (.bool x)).run Tryz.prog w=.ok (.bool (!x)) w:=λ _ _=>rfl;have y:=Z_ (uO (uP w) (.cells #[.int .i64 (m:Nat)] 3));have I:=Z_ (IL (bm:=w.heap.size) ls v (w.alloc (.cells #[.int .i64 (m:Nat)] 3)) (h.ext y.o hS) (λ k hk=>zU (hS k hk) y.o.size) hok ((uP _).new_cell rfl));obtain⟨a,c,rfl⟩:=h.form;obtain⟨n,J⟩:∃n,n=ls.length:=⟨_,rfl⟩
 rw[<-J]at I⊢;clear h J hok hS
 go_enter Tryz.func76,Tryz.ntmps76
 go_wp2_with fail;(with_reducible refine I.o.mono ?_);rintro e w1 ⟨rfl,z⟩;have D:=Z_ (y.o.trans z);clear z;go_wp2
 all_goals
  go_ret;exact⟨rfl,D.o⟩
end
section
open Go.RowKit
theorem OT(S:Nat->Prop)(w:World):U32s S w (.slice none 0 0) []:=⟨0,0,⟨none,0,rfl,zL _,by unfold maxLen;decide,λ h=>absurd h (yQ 0),λ h=>absurd h (yQ 0)⟩,λ j z hz=>by simp at hz⟩
theorem UY{w A W:World}{T:Nat}(h0:Ext w A)(hx:Ext (A.alloc (.cells #[.bool false,.slice none 0 0] T)) W):IntAt w A.heap.size W 0 none 0 :=
 (uj (g:=0) h0 (OT _ _)).ext hx
theorem Ik{w A W:World}{T:Nat}(h0:Ext w A)(hx:Ext (A.alloc (.cells #[.bool false,.slice none 0 0] T)).drew W):IntAt w A.heap.size W 0 none 0:=UY (T:=T) h0 ((uI (uP _)).trans hx)
theorem IntAt.put2{w W:World}{b:Nat}{g g':Int}{a a':Option Addr}{c c':Nat}{S:Nat->Prop}(h:IntAt w b W g a c)(hu:U32s S W (.slice a' (Z8 g').mag.length c') (Z8 g').mag)(hS:∀k,S k->w.heap.size<=k/\k<W.heap.size/\k≠b) :
  IntAt w b ((W.setCell ⟨b,0,none⟩ (.bool (Z8 g').neg)).setCell ⟨b,1,none⟩ (.slice a' (Z8 g').mag.length c')) g' a' c':=by
 have z:=YY (.bool (Z8 g').neg) (.slice a' (Z8 g').mag.length c') h.c0 h.c1;have y:=Wc (hu.to (uN _ _) hS) (b:=b) (λ e=>e.2.2 rfl) (.bool (Z8 g').neg) (.slice a' (Z8 g').mag.length c');exact⟨z.1,z.2,Xs h.f0 _ _,Xs h.f1 _ _,y.to (uN _ _) (λ k hk=>⟨hk.1,by rw[z2m];exact hk.2.1,hk.2.2⟩),h.ex.set2 h.lo _ _,h.lo⟩
theorem Kl{l:List DZ}(h:∀d∈l,0<d.N)(j:Nat):ZX (z18 (l.take j):Int)<=ZX (z18 l:Int):=by
 refine Yp ?_;rw[y7,y7];exact xA (OJ h) (Ez l j)
theorem Kq{S:Nat->Prop}(ls:List DZ)(v:Value)(w:World)(h:Ders S w v ls)(hS:∀k,S k->k<w.heap.size)(hpos:∀d∈ls,0<d.N/\ZX d.N<=1000000)(hlen:ZX (z18 ls:Int)<=1000000) :
  Calls Tryz.prog 80 #[v] w λ e w'=>∃v',e=.returned v'/\IntV (New w w') w' v' (Z8 (z18 ls:Nat))/\Ext w w':=by
 have HP:=Z_ h;have bA:=h.len_le;have ba:=Z_ hpos;have b1:=Z_ (λ j=>zT (Kl (λ d hd=>(hpos d hd).1) j) hlen);obtain⟨a,c,rfl⟩:=h.form;obtain⟨n,hn⟩:∃n,n=ls.length:=⟨_,rfl⟩
 rw[<-hn]at HP bA⊢;have HN:=Z_ hn;have HS:=Z_ hS;obtain⟨W0,ad⟩:∃Y,Y=w.alloc (.cells #[.bool false,.slice none 0 0] 28):=⟨_,rfl⟩
 have ax:Hd (Ext w W0):=Z_ (by rw[ad];exact uO (uP w) _);have bB:=Z_ (λ(Y:World) (hY:Ext W0 Y)=>(UY (T:=28) (uP w) (by rw[ad]at hY;exact hY):IntAt w w.heap.size Y 0 none 0));have bx:Hd (W0.heap.size=w.heap.size+1):=Z_ (by rw[ad,z00]);have CN:=Z_ (VM 1 W0 (by decide));clear h hn hS hpos hlen
 go_enter Tryz.func80,Tryz.ntmps80
 go_upto_region 1 with fail
 rw[<-ad];clear ad;go_wp2_with fail;(with_reducible refine CN.o.mono ?_);rintro e w1 ⟨v1,rfl,⟨bN,rfl,X⟩,U⟩;have I:=Z_ U;have ae:=Z_ X;obtain⟨a1,c1,rfl⟩:=X.form;obtain⟨W1,aA⟩:∃Y,Y=w1.alloc (.cells #[.bool (Z8 1).neg,.slice a1 (Z8 1).mag.length c1] 28):=⟨_,rfl⟩
 have a4:Hd (IntAt W0 w1.heap.size W1 ((z18 (ls.take 0):Nat):Int) a1 c1):=Z_ (by rw[aA];exact uj I.o ae.o);clear U X
 go_upto_region 2 with fail
 rw[<-aA];clear aA;obtain⟨bn,aP⟩:∃b,b=w1.heap.size:=⟨_,rfl⟩
 rw[<-aP]at a4⊢;clear aP;go_wp2
 go_loopw [11] (λ i wr=>∃(j:Nat) (a:Option Addr) (c:Nat),j<=n/\i=.int .i64 (j:Nat)/\Hd (IntAt W0 bn wr ((z18 (ls.take j):Nat):Int) a c)) (λ i _=>n-(intOf i).toNat)
 case atStart=>exact⟨0,a1,c1,zL _,rfl,a4⟩
 case round=>
  obtain⟨j,ag,cg,hjn,rfl,HI⟩:=hrel
  by_cases bv:j<n
  ·obtain⟨d,hd⟩:=ZN (l:=ls) (j:=j) (by rw[<-HN.o];exact bv);have HX:=Z_ (ax.o.trans HI.o.ex);obtain⟨b,o,vm,vp,vb,rfl,-,h2,h3,-,h5,h6,h7,h8,h9,a5,aH⟩:=(HP.o.ext HX.o HS.o).cellAt hd;have bb:=ba.o d (zP hd);have bg:=Z_ (Kg hd);obtain⟨g,hg⟩:∃g,g=z18 (ls.take j):=⟨_,rfl⟩
   have aS:Hd (ZX (g:Int)<=1000000):=Z_ (by rw[hg];exact b1.o j);rw[<-hg]at HI bg;have au:=Z_ (h9.to (S':=Z2 wr) (uN _ _) (λ k hk=>zU (HS.o k hk) HX.o.size));obtain⟨am,cm,rfl⟩:=h9.form;obtain⟨ap,cp,rfl⟩:=a5.form;obtain⟨ab,cb,rfl⟩:=aH.form;obtain⟨np,aG⟩:∃n,n=(Z5 d.P).length:=⟨_,rfl⟩
   obtain⟨nb,a7⟩:∃n,n=(d.By.map Z5).length:=⟨_,rfl⟩
   rw[<-aG]at h7;rw[<-a7]at h8;have O:=Z_ bb;clear hd a5 aH aG a7 hg h9 bb;obtain⟨nm,az⟩:∃z,z=(Z8 d.N).mag.length:=⟨_,rfl⟩
   obtain⟨sm,aC⟩:∃z,z=(Z8 d.N).neg:=⟨_,rfl⟩
   obtain⟨ng,aN⟩:∃z,z=(Z8 (g:Int)).mag.length:=⟨_,rfl⟩
   obtain⟨sg,a9⟩:∃z,z=(Z8 (g:Int)).neg:=⟨_,rfl⟩
   rw[<-az]at h6 au;rw[<-aC]at h5;have bf:=Z_ (zS az aC);have af:=Z_ (zS aN a9);clear az aC aN a9;obtain⟨wb,al⟩:∃Y,Y=wr.alloc (.cells #[.bool sm,.slice am nm cm,.slice ap np cp,.slice ab nb cb] 48):=⟨_,rfl⟩
   have aB:Hd (Ext wr wb):=Z_ (by rw[al];exact uO (uP wr) _)
   have av:=Z_ (λ(Y:World) (h:Ext wb Y)=>by
    rw[al]at h
    exact λ i v hv=>h.new_cell (i:=i) (v:=v) hv)
   go_upto_region 5 with fail
   rw[<-al];clear al h5 h6 h7 h8;obtain⟨b5,a0⟩:∃b,b=wr.heap.size:=⟨_,rfl⟩
   rw[<-a0]at av⊢;clear a0;have ah:=Z_ (HI.o.ext aB.o);have J:Hd (∀W:World,Ext wb W->W.cell? ⟨b5,0,none⟩=some (.bool sm)/\W.cell? ⟨b5,1,none⟩=some (.slice am nm cm)/\W.cell? ⟨bn,0,none⟩=some (.bool sg)/\W.cell? ⟨bn,1,none⟩=some (.slice ag ng cg)):=Z_ (λ W hW=>⟨av.o W hW 0 _ rfl,av.o W hW 1 _ rfl,by rw[af.o.2];exact(ah.o.ext hW).c0,by rw[af.o.1];exact(ah.o.ext hW).c1⟩);obtain⟨D,hD⟩:∃D,D=d.N.natAbs:=⟨_,rfl⟩
   obtain⟨q,hq⟩:∃q,q=D / Nat.gcd D g:=⟨_,rfl⟩
   have ay:d.N=(D:Int):=by rw[hD];have:=O.o.1;omega
   have CG:=Z_ (λ(Y:World) (hY:Ext wb Y)=>RO (S:=Z2 Y) (.agg #[.bool sm,.slice am nm cm]) (.agg #[.bool sg,.slice ag ng cg]) (Z8 d.N) (Z8 (g:Int)) Y ⟨_,by rw[bf.o.2],ZW au.o (aB.o.trans hY)⟩ ⟨_,by rw[af.o.2],by rw[af.o.1];exact(ah.o.ext hY).u.to (uN _ _) (λ _ h=>h.2.1)⟩ (λ _ h=>h) (zT O.o.2 (by decide)) (zT aS.o (by decide)));rw[z09,z09,ay,Int.gcd_natCast_natCast]at CG;have bs:0<Nat.gcd D g:=Nat.gcd_pos_of_pos_left _ (by have:=O.o.1;omega)
   have CE:=Z_ (λ(Y:World) (u:Value) (hY:Ext wb Y) (hu:U32s (Z2 Y) Y u (Z8 (Nat.gcd D g:Nat)).mag)=>UQ (S:=Z2 Y) (.agg #[.bool sm,.slice am nm cm]) (.agg #[.bool (Z8 (Nat.gcd D g:Nat)).neg,u]) (Z8 d.N) (Z8 (Nat.gcd D g:Nat)) Y ⟨_,by rw[bf.o.2],ZW au.o (aB.o.trans hY)⟩ ⟨_,rfl,hu⟩ (λ _ h=>h) (zT O.o.2 (by decide))
    (zT (Yp (by rw[y7];exact zT (Nat.gcd_le_left _ (by have:=O.o.1;omega)) (xC hD))) (zT O.o.2 (by decide))) (q:Int) (by rw[z09];omega) (by
     rw[z09,z09,ay,hq,<-yz,Nat.div_mul_cancel (wQ _ _)]))
   have bm:Hd (ZX (q:Int)<=1000000):=Z_ (zT (Yp (by rw[y7,hq];exact zT (yt _ _) (xC hD))) O.o.2);have aR:Hd (z18 (ls.take (j+1))=g*q):=Z_ (by rw[bg.o,hq,hD]);obtain⟨gq,a8⟩:∃z,z=Nat.gcd D g:=⟨_,rfl⟩
   rw[<-a8]at CG CE;have ar:=Z_ (show Ext wb wb.drew from uI (uP _));clear hq ay bs hD a8
   go_cut [6] (λ u6 wx=>∃(b6:Nat) (a6:Option Addr) (c6:Nat),u6=.pointer (some ⟨b6,0,none⟩)/\Hd (IntAt wb b6 wx (q:Nat) a6 c6))
   case first=>
    go_region_held3 (λ W=>W.cell? ⟨b5,0,none⟩=some (.bool sm)/\W.cell? ⟨b5,1,none⟩=some (.slice am nm cm)/\W.cell? ⟨bn,0,none⟩=some (.bool sg)/\W.cell? ⟨bn,1,none⟩=some (.slice ag ng cg))
     (first
      |exact J.o _ ar.o|exact J.o _ (((uP wb).alloc _).drew)
      |exact J.o _ I.o|exact J.o _ (I.o.alloc _)
      |exact J.o _ K.o|exact J.o _ (K.o.alloc _)
      |exact J.o _ (K.o.set2 (zR _) _ _)|exact J.o _ (K.o.set2 I.o.size _ _)|exact J.o _ ((K.o.alloc _).set2 K.o.size _ _))
     (first
      |(go_at_call 70;(first|(with_reducible refine(CG.o _ ar.o).mono ?_)|(with_reducible refine(CG.o _ (((uP wb).alloc _).drew)).mono ?_)|fail);rintro e w1 ⟨v1,rfl,⟨bN,rfl,X⟩,U⟩;(first|(have I:=Z_ (ar.o.trans U))|(have I:=Z_ ((((uP wb).alloc _).drew).trans U))|fail);(try (have BX:=Z_ (Ik (uP wb) U)));have ae:=Z_ (X.to (S':=Z2 w1) (uN _ _) uK);obtain⟨a1,k1,rfl⟩:=X.form;clear U X)
      |(go_at_call 71;(first|(with_reducible refine(CE.o w1 _ I.o ae.o).mono ?_)|(with_reducible refine(CE.o _ _ (I.o.alloc _) (ZW ae.o (uO (uP _) _))).mono ?_)|fail);rintro e w2 ⟨v2,rfl,⟨vm2,rfl,ai⟩,ac⟩;(first|(have K:=Z_ (I.o.trans ac))|(have K:=Z_ ((I.o.alloc _).trans ac))|fail);(first|(have BY:=Z_ (BX.o.ext ac))|(have BY:=Z_ (UY I.o ac))|skip);(first|(have aj:=Z_ (ai.to (S':=New w1 w2) (uN _ _) (λ k h=>h)))|(have aj:=Z_ (ai.to (S':=λ k=>w1.heap.size<k/\k<w2.heap.size) (uN _ _) (λ k h=>⟨by have h1:=h.1;rw[z00]at h1;exact h1,h.2⟩)))|fail);(try (obtain⟨y0,y1,yf0,yf1,-,-,-⟩:=BY.o));obtain⟨a2,k2,rfl⟩:=ai.form;clear ac ai)
      |fail)
    all_goals
     go_wp2_with fail
     go_meet
     first
      |exact⟨_,_,_,rfl,Z_ (BY.o.put2 aj.o (λ k h=>⟨zT I.o.size h.1,h.2,λ e=>by have h1:=Zj BX.o.c0;have h2:=h.1;omega⟩))⟩
      |exact⟨_,_,_,rfl,Z_ (BY.o.put2 aj.o (λ k h=>⟨zT I.o.size (xi h.1),h.2,λ e=>by have h2:=h.1;omega⟩))⟩
      |exact⟨_,_,_,rfl,Z_ (uj K.o (aj.o.to (uN _ _) (λ k h=>⟨zT I.o.size h.1,h.2⟩)))⟩
      |fail
   case rest=>
    obtain⟨b6,a6,c6,rfl,aq⟩:=hcut;have Z:=Z_ (ah.o.ext aq.o.ex);have d0:=Z.o.c0;have d1:=Z.o.c1;have d2:=Z.o.f0;have d3:=Z.o.f1;have e0:=aq.o.c0;have e1:=aq.o.c1;have CM:=Z_ (UP (S:=Z2 wc) (.agg #[.bool (Z8 (g:Int)).neg,.slice ag (Z8 (g:Int)).mag.length cg]) (.agg #[.bool (Z8 (q:Int)).neg,.slice a6 (Z8 (q:Int)).mag.length c6]) (Z8 (g:Int)) (Z8 (q:Int)) wc ⟨_,rfl,Z.o.u.to (uN _ _) (λ _ h=>h.2.1)⟩ ⟨_,rfl,aq.o.u.to (uN _ _) (λ _ h=>h.2.1)⟩ (λ _ h=>h) (zT aS.o (by decide)) (zT bm.o (by decide)));rw[z09,z09,<-yz,<-aR.o]at CM;obtain⟨L,hL⟩:∃L,L=z18 (ls.take (j+1)):=⟨_,rfl⟩
    have bt:=Z_ hL;rw[<-hL]at CM;clear hL;go_wp2_with fail;(with_reducible refine CM.o.mono ?_);rintro e w3 ⟨v3,rfl,⟨vm3,rfl,aF⟩,aa⟩;have bl:=Z_ aa;have bu:=Z_ aF;obtain⟨a3,k3,rfl⟩:=aF.form;have f0:=aa.cell d0;have f1:=aa.cell d1;have f2:=aa.free (Zj d0) d2;have f3:=aa.free (Zj d1) d3;clear aa aF d0 d1 d2 d3 e0 e1;go_wp2
    go_roundw
    case rel=>
     refine⟨j+1,a3,k3,by omega,by go_num,?_⟩;rw[<-bt.o];exact Z_ (Z.o.put bl.o bu.o)
    case measure=>simp only[intOf];omega
  ·obtain rfl:j=n:=by omega
   have d0:=HI.o.c0;have d1:=HI.o.c1;have hL:z18 (ls.take j)=z18 ls:=by rw[zN (by rw[<-HN.o];exact zR _)]
   rw[hL]at HI d0 d1;have r:=bB.o wr HI.o.ex;have r0:=r.c0;have r1:=r.c1;have r2:=r.f0;have r3:=r.f1;have HR:=Z_ (zS r0 r1);clear hL r;go_wp2
   all_goals
    have hd:=λ x y=>YY x y HR.o.1 HR.o.2;refine bodyPost_ret (by simp[results,Tryz.results80,go_sem,(hd _ _).1,(hd _ _).2];rfl) rfl ?_;refine⟨_,rfl,⟨_,rfl,?_⟩,(ax.o.trans HI.o.ex).set2 (zR _) _ _⟩;exact(Wc HI.o.u (λ e=>by have h1:=e.1;have h2:=bx.o;omega) _ _).to (uN _ _) (λ k hk=>⟨zT ax.o.size hk.1,by rw[z2m];exact hk.2.1⟩)
end
section
def nx:Code->Code
 | .seq _ b=>b
 |c=>c
def nxN:Nat->Code->Code
 |0,c=>c
 |n+1,c=>nxN n (nx c)
theorem J6{P:Program}{c c':Code}{Q:Exit->Act->World->Prop}{a:Act}{w:World}(e:c'=c)(h:Code.wp P c Q a w):Code.wp P c' Q a w:=e ▸ h
end
section
open Go.RowKit Go.Deep
def Ns(W:World)(o:Option Nat)(X:Int×MSt×DZ):Ending->World->Prop:=λ e W'=>∃v,e=.returned (.tuple #[v,.int .i64 X.1])/\MV W' o X.2.1/\W.grownBy W' o/\DerV (λ k=>W.heap.size<=k/\NB o W' k) W' v X.2.2
theorem P1{a a':Option Addr}{n n' c c':Nat}(h:Value.slice a n c=Value.slice a' n' c'):n=n':=by injection h
theorem MZ(S:Nat->Prop)(w:World):DerV S w (.agg #[.bool false,.slice none 0 0,.slice none 0 0,.slice none 0 0]) ⟨0,[],[]⟩ :=
 ⟨_,_,_,rfl,OT _ _,z06.nilv _ _ _ _ (by decide),z1w.nilv _ _ _ _ (by decide)⟩
theorem Pc{W W':World}{o r:Option Nat}{s:MSt}(h:MV W o s)(g:W.grownBy W' r)(hne:∀b,o=some b->some b≠r):MV W' o s:=λ b hb=>⟨(h b hb).1.grown g (hne b hb),(h b hb).2⟩
theorem FZ{W w:World}{o:Option Nat}{s:MSt}{f:DZ}{ls:List DZ}{am al an ab aP aC aR aN:Option Addr}{nl cl nn cn nb cb nP kP nC kC nR kR nN kN bd bc bo:Nat}{bn gN:Bool}{vp:Value}
  {u1 u3 u5 u12 u13 u14 u15 u16 u17 u18 u19 u20 u21 u22 u23 u24 u25 u26 u27 u28 u29 u30 u31 u32 u33 u34 u35 u36 u37 u38 u39 u40 u41 u42 u43 u44 u45 u46 u47 u48 u49 u50 u51 u52 u53 u54 u55 u56 u57 u58 u59 u60 u61 u62 u63 u64 u65 u66 u67 u68 u69 u70 u71 u72 u73 u74 u75 u76 u77 u78 u79 u80 u81 u82 u83 u84 u85 u86 u87 u88 u89 u90 u91 u92 u93 u94 u95 u96 u97 u98 u99 u100 u101 u102 u103 u104 u105 u106 u107 u108 u109 u110 u111 u112 u113 u114 u115 u116 u117 u118 u119 u120 u121 u122 u123 u124 u125 u126 u127 u128 u129 u130 u131 u132 u133 u134 u135 u136 u137 u138 u139 u140 u141 u142 u143 u144:Value}
  (Q:RestQFit o s f ls) (hX0:(Zw o s f ls).1=0) (hvm:Value.pointer am=ZK o) (hO:∀b,o=some b->b<W.heap.size) (h1:W.heap.size+1<bd) (h2:bd<bc) (h3:bc<bo) (hg:W.grownBy w o)
  (hbf:Bx4 W.heap.size w (.bool bn) (.slice an nn cn) vp (.slice ab nb cb)) (hbr:Bx4 (W.heap.size+1) w (.bool false) (.slice none 0 0) (.slice none 0 0) (.slice none 0 0)) (hbd:Bx3 bd w (.slice aP nP kP) (.slice aC nC kC) (.slice aR nR kR))
  (hca:CalcAt w bc (ZK o) 0) (hm:MV w o (Zw o s f ls).2.1) (hbo:Bx4 bo w (.bool gN) (.slice aN nN kN) (.slice aR nR kR) (.slice none 0 0))
  (hfn:U32s (NE (EO o bc bo) w) w (.slice an nn cn) (Z8 f.N).mag) (hbn:bn=(Z8 f.N).neg) (hfb:z1w (NE (EO o bc bo) w) w (.slice ab nb cb) (f.By.map Z5)) (hl:Ders (NE (EO o bc bo) w) w (.slice al nl cl) ls)
  (hp:Ints (NE (EO o bc bo) w) w (.slice aP nP kP) (Zw o s f ls).2.2.2.1) (hc:z1w (NE (EO o bc bo) w) w (.slice aC nC kC) ((Zw o s f ls).2.2.2.2.map Z5)) (hr:z06 (NE (EO o bc bo) w) w (.slice aR nR kR) (Z5 (Zw o s f ls).2.2.1))
  (hN:U32s (NE (EO o bc bo) w) w (.slice aN nN kN) (Z8 ((z18 (f :: ls):Nat):Int)).mag) (hgN:gN=(Z8 ((z18 (f :: ls):Nat):Int)).neg) (hlp:(Zw o s f ls).2.2.2.1.length=ls.length) (hlc:(Zw o s f ls).2.2.2.2.length=ls.length) :
  Code.wp Tryz.prog (nxN 6 (Tryz.f42.body.getD .ret)) (bodyPost Tryz.prog Tryz.f42 (Ns W o (YP o s f ls)))
   { tmps:=#[.pointer am,u1,.slice al nl cl,u3,.pointer (some ⟨W.heap.size,0,none⟩),u5,.pointer (some ⟨W.heap.size+1,0,none⟩),.int .i64 0,.pointer (some ⟨bd,0,none⟩),.int .i64 0,.pointer (some ⟨bc,0,none⟩),.pointer (some ⟨bo,0,none⟩),u12,u13,u14,u15,u16,u17,u18,u19,u20,u21,u22,u23,u24,u25,u26,u27,u28,u29,u30,u31,u32,u33,u34,u35,u36,u37,u38,u39,u40,u41,u42,u43,u44,u45,u46,u47,u48,u49,u50,u51,u52,u53,u54,u55,u56,u57,u58,u59,u60,u61,u62,u63,u64,u65,u66,u67,u68,u69,u70,u71,u72,u73,u74,u75,u76,u77,u78,u79,u80,u81,u82,u83,u84,u85,u86,u87,u88,u89,u90,u91,u92,u93,u94,u95,u96,u97,u98,u99,u100,u101,u102,u103,u104,u105,u106,u107,u108,u109,u110,u111,u112,u113,u114,u115,u116,u117,u118,u119,u120,u121,u122,u123,u124,u125,u126,u127,u128,u129,u130,u131,u132,u133,u134,u135,u136,u137,u138,u139,u140,u141,u142,u143,u144],defers:=[] } w:=by
 obtain⟨X,hX⟩:∃X,X=Zw o s f ls:=⟨_,rfl⟩
 obtain⟨N,cA⟩:∃N:Int,N=((z18 (f :: ls):Nat):Int):=⟨_,rfl⟩
 have HQ:=Z_ Q;have HX:=Z_ hX;have d7:=Z_ hX0;have a0:=Z_ cA;obtain⟨R0,Z⟩:∃R,R=Xz o s f ls:=⟨_,rfl⟩
 have kp:=Z_ Z;have a6:nl=ls.length:=by obtain⟨a,c,e⟩:=hl.form;exact P1 e
 have bs:nb=f.By.length:=by obtain⟨a,c,e⟩:=hfb.form;rw[P1 e,zE]
 have ai:=Z_ (zS a6 bs);have d6:∀b,o=some b->b≠bc:=λ b hb=>by have:=hO b hb;omega
 have CH:=DJ (bd:=bc) hca hm d6 (hl.to (uN _ _) (λ k D=>Vn D)) (hp.to (uN _ _) (λ k D=>Vn D)) hlp (λ d hd=>by
  obtain⟨k,n,q1,q2,q3⟩:=(Q.hls d hd).P
  exact⟨k,n,q1,by omega,by omega⟩) (Q.heads hX0)
 rw[show z9d o ((ls.map DZ.P).zip (Zw o s f ls).2.2.2.1) ((0,(Zw o s f ls).2.1),ZO 1 [])=R0 from Z.symm]at CH;have g5:=Z_ CH;have cx:=Z_ (Q.row hX0);rw[<-hX,<-Z,<-cA]at cx;obtain⟨gs,ei⟩:∃gs,gs=ls.zip X.2.2.2.2:=⟨_,rfl⟩
 have d9:=Z_ ei;rw[<-ei]at cx;rw[<-hX]at hp hc hr hm hlp hlc;rw[<-cA]at hN hgN;have ax:=Z_ hvm;have HO:=Z_ hO;have I:=Z_ (zS h1 (zS h2 h3));have HG:=Z_ hg;have HB:=Z_ (zS hbf (zS hbr hbd));have hB:=Z_ hbo;have f0:=Z_ hfn;have j1:=Z_ hbn;have fn:=Z_ hfb;have HL:=Z_ hl;have HC:=Z_ hc;have g0:=Z_ hr;have HN:=Z_ hN;have et:=Z_ hgN;have ec:=Z_ hlc;have eR:=Z_ d6;have g4:=Z_ (zS hca.lt hbo.lt);have d0:=hbd.c0;clear Q hX hX0 cA Z a6 bs d6 CH ei hvm hO h1 h2 h3 hg hbf hbr hbd hbo hfn hbn hfb hl hp hc hr hN hgN hlp hlc hca hm
 conv=>arg 2;dsimp only[nxN,nx,Tryz.f42,Option.getD]
 conv=>arg 4;dsimp only
 go_wp2_with fail;(with_reducible refine g5.o.mono ?_);rintro e w9 ⟨v9,rfl,hs,f3,eo,en⟩;have U:=Z_ (Td (bo:=bo) eo);have h9:=Z_ hs;have i4:=Z_ f3;have h5:=Z_ (U.o.size)
 have f2:Hd (z06 (NE (EO o bc bo) w9) w9 v9 (Z5 R0.2)):=Z_ (en.to (uN _ _) (λ k D=>⟨D.2.1,λ e=>by
  have q1:=D.1;have q2:=g4.o
  rcases e with e|e|e
  ·exact D.2.2.1 e
  ·exact D.2.2.2 e
  ·omega⟩))
 obtain⟨aH,kH,rfl⟩:=en.form;obtain⟨nH,g2⟩:∃n,n=(Z5 R0.2).length:=⟨_,rfl⟩
 rw[<-g2]at f2⊢
 have e6:∀k,W.heap.size<=k->k<bc->¬ EO o bc bo k:=λ k q1 q2 e=>by
  rcases e with e|e|e
  ·have:=HO.o k e.symm;omega
  ·omega
  ·have:=I.o;omega
 have ay:=Z_ e6;have cz:=Z_ (zS (HB.o.1.ge U.o (ay.o _ (zR _) (by have:=I.o;omega))) (zS (HB.o.2.1.ge U.o (ay.o _ (zw _) (by have:=I.o;omega))) (HB.o.2.2.ge U.o (ay.o _ (by have:=I.o;omega) I.o.2.1))));have f9:Hd (Bx4 bo w9 (.bool gN) (.slice aN nN kN) (.slice aR nR kR) (.slice none 0 0)):=Z_ (hB.o.gd eo (λ e=>by have:=HO.o _ e.symm;have:=I.o;omega) (by have:=I.o;omega));have gf:=Z_ (fn.o.to U.o.kept (Xu U.o.size));have gk:=Z_ (f0.o.to U.o.kept (Xu U.o.size));have j4:=Z_ (HL.o.to U.o.kept (Xu U.o.size));have hI:=Z_ (HC.o.to U.o.kept (Xu U.o.size));have hU:=Z_ (g0.o.to U.o.kept (Xu U.o.size));have d4:=Z_ (HN.o.to U.o.kept (Xu U.o.size));have d3:=cz.o.1.c3;clear hs f3 eo en g2 d0 g5 HB hB fn f0 HL HC g0 HN e6;have dt:Hd (W.grownBy w9 o):=Z_ (U.o.gb HG.o (by have:=I.o;omega) (by have:=I.o;omega));have ba:Hd (f.N≠0/\f.N∣N/\ZX N<=1000000/\ZX f.N<=1000000):=Z_ ⟨by have:=HQ.o.hf.pos;omega,by rw[a0.o];exact Li (zz ..),by rw[a0.o];exact zT HQ.o.least (by decide),zT HQ.o.hf.len (by decide)⟩;go_wp2
 go_loopw [73] (λ u wr=>∃(i:Nat) (R:(Int×MSt)×List PZ) (ov:Value) (xs:List Value),i<=nb/\u=.int .i64 (i:Nat)/\Hd (R=rowK o f gs R0.2 N i R0.1)/\Hd (CalcAt wr bc (.pointer am) R.1.1)/\Hd (MV wr o R.1.2)/\Hd (Ge (EO o bc bo) w9 wr)/\Hd (Bx4 bo wr (.bool gN) (.slice aN nN kN) (.slice aR nR kR) ov)/\Hd (wr.ownsRow w9.heap.size 35 1 ov i xs)/\Hd (z39 (λ k=>w9.heap.size<=k/\NE (EO o bc bo) wr k/\some k≠ov.ownBlock) wr xs (R.2.map Z5))) (λ i _=>nb-(intOf i).toNat)
 case atStart=>exact⟨0,(R0.1,[]),_,[],zL _,rfl,Z_ rfl,by rw[ax.o];exact h9,i4,Z_ (Ge.refl _ _),f9,World.ownsRow_nil _ _ _ _,z39.nil _ _⟩
 case round=>
  rename World=>wo
  obtain⟨i,R,ov,xs,hi,rfl,cd,HD,HM,J,ag,HW,HY⟩:=hrel;obtain⟨oa,on,oc,rfl⟩:=Tu HW.o
  by_cases fk:i<nb
  ·have ff:(f.By.map Z5)[i]? = some (Z5 (f.By.getD i [])):=by
    rw[yZ,zH,zi (by rw[<-ai.o.2];exact fk)];rfl
   have cy:Hd (i<f.By.length):=Z_ (by rw[<-ai.o.2];exact fk);obtain⟨bb,ob,hV,rfl,-,q2,q3,-,q5,q6⟩:=((gf.o.to J.o.kept (Xu J.o.size)).cellAt ff)
   have O:=Z_ (cz.o.1.ge J.o (ay.o _ (zR _) (by have:=I.o;omega)));have hG:=Z_ (cz.o.2.2.ge J.o (ay.o _ (by have:=I.o;omega) I.o.2.1));have ar:=Z_ (show Ext wo wo.drew from uI (uP _));have eq:=cx.o.a i cy.o;rw[<-cd.o]at eq;obtain⟨R1,eg⟩:∃R1,R1=V6 o f R0.2 N i R.1:=⟨_,rfl⟩
   have CP:=Z_ (show Calls Tryz.prog 82 #[.pointer (some ⟨bc,0,none⟩),hV,.slice aH nH kH,.agg #[.bool gN,.slice aN nN kN],.agg #[.bool bn,.slice an nn cn]] wo.drew (zap wo.drew o bc R1) from by
    rw[eg]
    exact ME (s:=R.1.2) (c:=R.1.1) (by rw[<-ax.o];exact HD.o.ext ar.o) (HM.o.ext ar.o) eR.o (PC.on (q6.to (uN _ _) (λ k D=>Vn D)) (Y8 ar.o)) (PC.on ((f2.o.to J.o.kept (Xu J.o.size)).to (uN _ _) (λ k D=>Vn D)) (Y8 ar.o))
     (ZW ((d4.o.to J.o.kept (Xu J.o.size)).to (uN _ _) (λ k D=>D.1)) ar.o) et.o (ZW ((gk.o.to J.o.kept (Xu J.o.size)).to (uN _ _) (λ k D=>D.1)) ar.o) j1.o ba.o.1 ba.o.2.1 ba.o.2.2.1 ba.o.2.2.2 eq)
   have gq:=Z_ eg;have p0:=O.o.c0;have p1:=O.o.c1;have p3:=O.o.c3;have b0:=ag.o.c0;have b1:=ag.o.c1;obtain⟨abi,cbi,rfl⟩:=q6.form;obtain⟨nbi,d2⟩:∃n,n=(Z5 (f.By.getD i [])).length:=⟨_,rfl⟩
   rw[<-d2]at CP q5;clear ff eq eg q6 d2 d3;go_wp2
   go_still_tail 11,(by kernel_rfl)
   change wpList _ _ _ _ _ wo.drew;go_wp2_with fail;(with_reducible refine CP.o.mono ?_);rintro e w11 ⟨v11,rfl,db,dF,c9,ce⟩;have hy:=Z_ db;have f7:=Z_ dF;have hh:=Z_ ((Y8 (o:=o) (bd:=bc) ar.o).trans c9);have hF:=Z_ ce;obtain⟨a11,k11,rfl⟩:=ce.form;clear db dF c9 ce CP p0 p1 p3 b0 b1 q5;go_wp2
   go_loopw [14,90] (λ u z wk=>∃(k:Nat) (A:(Int×MSt)×PZ),k<=nl/\z=.int .i64 (k:Nat)/\Hd (A=sumK o N i (gs.take k) R1)/\Hd (CalcAt wk bc (.pointer am) A.1.1)/\Hd (MV wk o A.1.2)/\Hd (Gd o bc wo wk)/\Hd (PN wo.heap.size o bc wk u A.2)) (λ _ z _=>nl-(intOf z).toNat)
   case atStart=>exact⟨0,R1,zL _,rfl,Z_ rfl,by rw[ax.o];exact hy,f7,hh,hF⟩
   case round=>
    rename World=>wk
    obtain⟨k,A,D,rfl,er,ep,d5,ac,em⟩:=hrel;obtain⟨aS,kS,rfl⟩:=em.o.form
    by_cases fF:k<nl
    ·obtain⟨g,b4⟩:=ZN (l:=ls) (j:=k) (by rw[<-ai.o.1];exact fF);obtain⟨cf,el⟩:=ZN (l:=X.2.2.2.2) (j:=k) (by rw[ec.o,<-ai.o.1];exact fF)
     have hz:gs[k]? = some (g,cf):=by
      rw[d9.o,vL];exact⟨b4,el⟩
     have cP:=Z_ (HQ.o.hls g (zP b4));have hbf:=cx.o.b i cy.o k _ hz;have eh:=Ga (o:=o) (N:=N) (i:=i) (a:=R1) hz;rw[<-cd.o,<-gq.o,<-er.o]at hbf;rw[<-er.o]at eh;simp only at hbf;have f6:=Z_ hbf;have ha:=Z_ eh;have af:=Z_ (J.o.trans (Td (bo:=bo) ac.o));obtain⟨bl,ol,vm,vpp,vbb,rfl,-,i2,i3,-,c0,c1,c2,c3,um,tp,pb⟩:=(j4.o.to af.o.kept (Xu af.o.size)).cellAt b4
     have he:(g.By.map Z5)[i]? = some (Z5 (g.By.getD i [])):=by
      rw[yZ,zH,zi (by rw[cP.o.m];exact cy.o)];rfl
     obtain⟨abb,cv,rfl⟩:=pb.form;obtain⟨bg,og,i5,rfl,-,j2,j3,jb,j5,j6⟩:=pb.cellAt he;have gF:(X.2.2.2.2.map Z5)[k]? = some (Z5 cf):=by rw[yZ,el];rfl
     obtain⟨cC,cF,kb,h4,fr,l2,l3,lb,l5,l6⟩:=(hI.o.to af.o.kept (Xu af.o.size)).cellAt gF;subst h4;rw[zE,ec.o,<-ai.o.1]at fr;have fp:=fr.symm;subst fp;have c5:(g.By.map Z5).length=nb:=by rw[zE,cP.o.m,ai.o.2]
     rw[c5]at c3 j2;have gg:=Z_ um;obtain⟨bf,cm,rfl⟩:=um.form;obtain⟨ho,fu,rfl⟩:=tp.form;obtain⟨co,c6⟩:∃n,n=(Z8 g.N).mag.length:=⟨_,rfl⟩
     obtain⟨bB,ch⟩:∃n,n=(Z8 g.N).neg:=⟨_,rfl⟩
     obtain⟨fl,dr⟩:∃n,n=(Z5 g.P).length:=⟨_,rfl⟩
     rw[<-c6]at c1 gg;rw[<-ch]at c0;rw[<-dr]at c2;obtain⟨wb,cQ⟩:∃Y,Y=wk.alloc (.cells #[.bool bB,.slice bf co cm,.slice ho fl fu,.slice (some ⟨bg,og,none⟩) nb cv] 48):=⟨_,rfl⟩
     have eu:Hd (Ext wk wb):=Z_ (by rw[cQ];exact uO (uP _) _);have aB:Hd (Bx4 wk.heap.size wb (.bool bB) (.slice bf co cm) (.slice ho fl fu) (.slice (some ⟨bg,og,none⟩) nb cv)):=Z_ (by rw[cQ];exact uF (uP _));have cg:=Z_ (show Ext wb wb.drew from uI (uP _));have az:=Z_ (eu.o.trans cg.o);obtain⟨R2,cu⟩:∃R2,R2=Wv o A.1 (g.By.getD i []) cf N g.N:=⟨_,rfl⟩
     have CP:=Z_ (show Calls Tryz.prog 82 #[.pointer (some ⟨bc,0,none⟩),i5,kb,.agg #[.bool gN,.slice aN nN kN],.agg #[.bool bB,.slice bf co cm]] wb.drew (zap wb.drew o bc R2) from by
      rw[cu]
      exact ME (s:=A.1.2) (c:=A.1.1) (by rw[<-ax.o];exact ep.o.ext az.o) (d5.o.ext az.o) eR.o (PC.on (j6.to (uN _ _) (λ k D=>Vn D)) (Y8 az.o)) (PC.on (l6.to (uN _ _) (λ k D=>Vn D)) (Y8 az.o))
       (ZW ((d4.o.to af.o.kept (Xu af.o.size)).to (uN _ _) (λ k D=>D.1)) az.o) et.o (ZW (gg.o.to (uN _ _) (λ k D=>D.1)) az.o) ch (by have:=cP.o.pos;omega) (by rw[a0.o];exact Li (yX _ (zP b4))) ba.o.2.2.1 (zT cP.o.len (by decide)) f6.o.1)
     have f4:=f6.o.2;rw[<-cu]at f4;obtain⟨k1,n1,l1,m1,fA,fR,e1,e2,e3,e4,e5⟩:=f4;have aj:=Z_ (zS fA (zS fR (zS e1 (zS e2 (zS e3 (zS e4 e5))))));have g1:S_ o N i A (g,cf)=(R2.1,Zr (A.2++ZP R2.2)):=by rw[cu];rfl
     rw[g1]at ha;obtain⟨fm,gv,rfl⟩:=j6.form;obtain⟨g6,f1,rfl⟩:=l6.form;obtain⟨fx,bN⟩:∃n,n=(Z5 (g.By.getD i [])).length:=⟨_,rfl⟩
     obtain⟨e0,bA⟩:∃n,n=(Z5 cf).length:=⟨_,rfl⟩
     rw[<-bN,<-bA]at CP;rw[<-bN]at j5;rw[<-bA]at l5;have ad:=Z_ (ag.o.gd ac.o (λ e=>by have:=HO.o _ e.symm;have:=I.o;omega) (by have:=I.o;omega));have cR:=Z_ (hG.o.ge (Td (bo:=bo) ac.o) (ay.o _ (by have:=I.o;omega) I.o.2.1));clear b4 el hz hbf eh he gF um tp pb c6 ch dr fA fR e1 e2 e3 e4 e5 g1 cu bN bA j6 l6 c5;obtain⟨nS,a4⟩:∃n,n=(Z5 A.2).length:=⟨_,rfl⟩
     have ae:=Z_ em.o;rw[<-a4]at ae⊢;have HNS:=Z_ a4;clear a4
     go_upto_region 16 with fail
     rw[<-cQ];clear cQ c0 c1 c2 c3
     have cG:=Z_ (λ(Y:World) (hY:Gd o bc wb Y)=>by
      have kc:=λ(k j:Nat) (v:Value) (D:NC o bc wk k) (hv:wk.cell? ⟨k,j,none⟩=some v)=>(V7 hY).cell (Ua eu.o.size k D) (eu.o.cell hv);have eP:NC o bc wb wk.heap.size:=⟨aB.o.lt,λ e=>by have:=d5.o.block e.symm;omega,λ e=>by have:=ep.o.lt;omega⟩
      have f5:NC o bc wk bd:=⟨cR.o.lt,λ e=>by have:=HO.o _ e.symm;have:=I.o;omega,by have:=I.o;omega⟩
      have c4:NC o bc wk bo:=⟨ad.o.lt,λ e=>by have:=HO.o _ e.symm;have:=I.o;omega,by have:=I.o;omega⟩
      exact(⟨(V7 hY).cell eP aB.o.c0,(V7 hY).cell eP aB.o.c1,(V7 hY).cell eP aB.o.c3,kc _ _ _ (Vn jb) j5,kc _ _ _ (Vn lb) l5,kc _ _ _ f5 cR.o.c1,kc _ _ _ c4 ad.o.c0,kc _ _ _ c4 ad.o.c1⟩:(λ Y=>Y.cell? ⟨wk.heap.size,0,none⟩=some (.bool bB)/\Y.cell? ⟨wk.heap.size,1,none⟩=some (.slice bf co cm)/\Y.cell? ⟨wk.heap.size,3,none⟩=some (.slice (some ⟨bg,og,none⟩) nb cv)/\Y.cell? ⟨bg,og+i,none⟩=some (.slice fm fx gv)/\Y.cell? ⟨cC,cF+k,none⟩=some (.slice g6 e0 f1)/\Y.cell? ⟨bd,1,none⟩=some (.slice (some ⟨cC,cF,none⟩) nl kC)/\Y.cell? ⟨bo,0,none⟩=some (.bool gN)/\Y.cell? ⟨bo,1,none⟩=some (.slice aN nN kN)) Y))
     clear j5 l5 jb lb;go_wp2_with fail
     go_region_held3 (λ Y=>Y.cell? ⟨wk.heap.size,0,none⟩=some (.bool bB)/\Y.cell? ⟨wk.heap.size,1,none⟩=some (.slice bf co cm)/\Y.cell? ⟨wk.heap.size,3,none⟩=some (.slice (some ⟨bg,og,none⟩) nb cv)/\Y.cell? ⟨bg,og+i,none⟩=some (.slice fm fx gv)/\Y.cell? ⟨cC,cF+k,none⟩=some (.slice g6 e0 f1)/\Y.cell? ⟨bd,1,none⟩=some (.slice (some ⟨cC,cF,none⟩) nl kC)/\Y.cell? ⟨bo,0,none⟩=some (.bool gN)/\Y.cell? ⟨bo,1,none⟩=some (.slice aN nN kN))
      (first
       |exact cG.o _ (Y8 cg.o)|exact cG.o _ cj.o|exact cG.o _ (cj.o.trans (Y8 aG.o))|fail)
      (first
       |(go_at_call 82;(with_reducible refine CP.o.mono ?_);rintro e w13 ⟨v13,rfl,ds,df,ca,b6⟩;have dz:=Z_ ds;have dp:=Z_ df;have cj:=Z_ ((Y8 (o:=o) (bd:=bc) cg.o).trans ca);have bv:=Z_ ((Y8 (o:=o) (bd:=bc) az.o).trans ca);have CN:=Z_ (Mt b6.pc.pv aj.o.2.1 aj.o.2.2.2.1 aj.o.2.2.2.2.2.2);obtain⟨a13,k13,rfl⟩:=b6.form;obtain⟨n13,ci⟩:∃n,n=(Z5 R2.2).length:=⟨_,rfl⟩;rw[<-ci];rw[<-ci]at CN;clear ds df ca b6 ci)
       |(go_at_call 83;(with_reducible refine CN.o.mono ?_);rintro e kB ⟨v14,rfl,a5,dG⟩;have aG:=Z_ dG;have dq:=Z_ a5;obtain⟨a14,k14,rfl⟩:=a5.form;obtain⟨n14,bu⟩:∃n,n=(Z5 (ZP R2.2)).length:=⟨_,rfl⟩;rw[<-bu];rw[<-bu]at dq;clear a5 dG bu)
       |fail)
     clear CP CN cG;have jn:Hd (PN wo.heap.size o bc kB (.slice aS nS kS) A.2):=Z_ (ui ae.o (bv.o.trans (Y8 aG.o)));have CA:=Z_ (TJ jn.o.pc.pv (dq.o.to (uN _ _) (λ k D=>D.2)) aj.o.1 aj.o.2.1.neg aj.o.2.2.1 aj.o.2.2.2.1 aj.o.2.2.2.2.1);go_wp2_with fail;(with_reducible refine CA.o.mono ?_);rintro e hQ ⟨hH,rfl,cr,c8⟩;have a8:=Z_ (aG.o.trans c8)
     have fh:Hd (PN wo.heap.size o bc hQ hH (Zr (A.2++ZP R2.2))):=Z_ (cr.to (uN _ _) (λ k D=>by
      have q1:=D.1;have q2:=aG.o.size;have q3:=bv.o.size;have q4:=ac.o.size;have q5:=dz.o.lt
      exact⟨by omega,D.2,λ e=>by have:=dp.o.block e.symm;omega,by omega⟩))
     obtain⟨a15,k15,rfl⟩:=cr.form;clear cr c8 CA;go_wp2
     go_roundw
     case rel=>exact⟨k+1,(R2.1,Zr (A.2++ZP R2.2)),by omega,by go_num,Z_ ha.o.symm,by rw[ax.o];exact Z_ (dz.o.ext a8.o),Z_ (dp.o.ext a8.o),Z_ ((ac.o.trans bv.o).trans (Y8 a8.o)),fh⟩
     case measure=>simp only[intOf];omega
    ·obtain rfl:k=nl:=by omega
     have hA:A=sumK o N i gs R1:=by
      have h:=er.o
      rwa [zN (by rw[d9.o,List.length_zip,ec.o,Nat.min_self,<-ai.o.1];exact zR _)]at h
     have h0:=Z_ hA;clear hA;have ad:=Z_ (ag.o.gd ac.o (λ e=>by have:=HO.o _ e.symm;have:=I.o;omega) (by have:=I.o;omega));have a7:∀b,o=some b->b<w9.heap.size:=λ b hb=>by have:=HO.o b hb;have:=dt.o.size;omega
     have cc:=Z_ a7;have bx:Hd (bc<w9.heap.size/\bo<w9.heap.size):=Z_ (by have:=g4.o;have:=h5.o;omega);have kk:=Z_ (OC HW.o ac.o a7 bx.o.1);have i8:Hd (z39 (λ k=>w9.heap.size<=k/\NE (EO o bc bo) wk k/\some k≠(Value.slice oa on oc).ownBlock) wk xs (R.2.map Z5)):=Z_ (HY.o.to (λ k D=>ac.o.block k D.2.1.1 (λ e=>D.2.1.2 (.inl e)) (λ e=>D.2.1.2 (.inr (.inl e)))) (λ k D=>⟨D.1,⟨zU D.2.1.1 ac.o.size,D.2.1.2⟩,D.2.2⟩));have ct:=Z_ (show Ext wk wk.drew from uI (uP _));obtain⟨nS,a4⟩:∃n,n=(Z5 A.2).length:=⟨_,rfl⟩
     have ae:=Z_ em.o;rw[<-a4]at ae⊢;have CK:=Z_ (show Calls Tryz.prog 85 #[.pointer (some ⟨bc,0,none⟩),.slice aS nS kS] wk.drew (Rs wk.drew o bc (.slice aS nS kS) (Xl o A.1 A.2)) from Lp (s:=A.1.2) (c:=A.1.1) (by rw[<-ax.o];exact ep.o.ext ct.o) (d5.o.ext ct.o) eR.o (PM.ext ae.o.pc.pm ct.o));have ih:Hd (rowK o f gs R0.2 N (i+1) R0.1=(Xl o A.1 A.2,R.2 ++ [A.2])):=Z_ (by rw[h0.o,gq.o,cd.o];rfl);have gG:Hd (i+1<=maxLen/\(i+1)*24<=140737488355328):=Z_ (by have h1:=HQ.o.hm;have h2:=cy.o;unfold maxLen;omega);have d8:Hd (∀k,w9.heap.size<=k->k≠bo/\k≠bc):=Z_ (λ k D=>by have:=bx.o;omega);have p2:=ad.o.c3;clear a4 a7
     go_upto_region 19 with fail
     obtain⟨j0,hj,kz,id,h8⟩:=info_parts uv;go_wp2_with fail
     go_region_law (first
      |(refine XE rfl (.tmp 123) (.tmp 127) 46 rfl w9.heap.size 35 j0 (.slice none 0 0) 1 24 Tryz.underlying46 hj kz id h8 rfl (yC _) (.slice oa on oc) i xs rfl ez.o (some ⟨w1.heap.size,0,none⟩) 1 1 _ rfl e7.o gG.o.1 gG.o.2 ft.o ?_;intro v5 w5 bm hg fc;have qf:=Go.Joins.ownsRow_form bm (yC _);obtain⟨bq,cq,rfl⟩:=qf;have ga:=Z_ bm;have bt:=Z_ hg;have hL:=Z_ fc;have a9:=Z_ (hM.o.gb hg (λ e=>(d8.o bo (ez.o.lt bo e.symm).1).1 rfl));have t3:=a9.o.c3;have t4:=a9.o.fz 3;clear bm hg fc)
      |(go_simp;go_at_call 85;(with_reducible refine CK.o.mono ?_);rintro e w1 ⟨rfl,fG,gl,fq⟩;have jp:=Z_ fG;have hT:=Z_ gl;have au:=Z_ ((Y8 (o:=o) (bd:=bc) ct.o).trans fq);have i0:=Z_ (ui ae.o au.o);have d1:=Z_ (ad.o.gd au.o (λ e=>by have:=HO.o _ e.symm;have:=I.o;omega) (by have:=I.o;omega));have r0:=d1.o.c3;have r1:=Z1 (.cells #[.slice aS nS kS] 35) r0;have e7:=Z_ (Wj w1 #[.slice aS nS kS] 35 (QY rfl) rfl);have aF:=Z_ (uO (uP w1) (.cells #[.slice aS nS kS] 35));have jj:=Z_ (OC kk.o au.o cc.o bx.o.1);have ez:=Z_ (Zp jj.o aF.o);have ft:=Z_ (zT (zT (zT J.o.size ac.o.size) au.o.size) aF.o.size);have hM:=Z_ (d1.o.ext aF.o);clear fG gl fq)
      |fail)
     all_goals
      go_wp2
      go_roundw
      case measure=>simp only[intOf];omega
      case rel=>
       have av:=aF.o;have aA:∀k,some k=(Value.slice oa on oc).ownBlock->w9.heap.size<=k:=λ k e=>(ez.o.lt k e.symm).1;have h7:=CalcAt.same (W':=w5.setCell ⟨bo,3,none⟩ (.slice (some ⟨bq,0,none⟩) (i+1) cq)) ((jp.o.ext av).gb bt.o (λ e=>(d8.o bc (aA bc e)).2 rfl)) (Yx _ _ _ (by have:=I.o;show bc≠bo;omega));have i1:=MV.set (bd:=bo) (Pc (hT.o.ext av) bt.o (λ b hb e=>by have:=cc.o b hb;have:=aA b e;omega)) (λ b hb e=>by have:=cc.o b hb;have:=HO.o b hb;have:=I.o;omega) (a:=⟨bo,3,none⟩) rfl (.slice (some ⟨bq,0,none⟩) (i+1) cq);have hK:=Ge.onrow ((((J.o.trans (Td (bo:=bo) ac.o)).trans (Td au.o)).trans (YR av))) bt.o (λ r e=>aA r e.symm);have hE:=hK.trans (AP (E:=EO o bc bo) w5 (a:=⟨bo,3,none⟩) (.inr (.inr rfl)) (.slice (some ⟨bq,0,none⟩) (i+1) cq));refine⟨i+1,(Xl o A.1 A.2,R.2 ++ [A.2]),_,_,by omega,by go_num,Z_ ih.o.symm,by rw[ax.o];exact Z_ h7,Z_ i1,Z_ hE,Z_ (a9.o.set3 _),Z_ (OZ ga.o (λ k D=>Yx _ _ _ (λ e=>(d8.o k (ga.o.lt k D).1).1 e))),Z_ ?_⟩;rw[xl]
       have b7:∀k,(w9.heap.size<=k/\NE (EO o bc bo) (w1.alloc (.cells #[.slice aS nS kS] 35)) k/\some k≠(Value.slice oa on oc).ownBlock)->w9.heap.size<=k/\NE (EO o bc bo) (w5.setCell ⟨bo,3,none⟩ (.slice (some ⟨bq,0,none⟩) (i+1) cq)) k/\some k≠(Value.slice (some ⟨bq,0,none⟩) (i+1) cq).ownBlock:=λ k D=>⟨D.1,⟨by rw[z03];exact zU D.2.1.1 bt.o.size,D.2.1.2⟩,by
        rcases hL.o with e|e
        ·rw[e];exact D.2.2
        ·rw[e];intro e2;have e3:=Option.some.inj e2;have e4:=D.2.1.1;rw[e3]at e4
         exact yQ _ e4⟩
       have hP:Kept (λ k=>w9.heap.size<=k/\NE (EO o bc bo) (w1.alloc (.cells #[.slice aS nS kS] 35)) k/\some k≠(Value.slice oa on oc).ownBlock) (w1.alloc (.cells #[.slice aS nS kS] 35)) (w5.setCell ⟨bo,3,none⟩ (.slice (some ⟨bq,0,none⟩) (i+1) cq)):=(uJ bt.o (λ k D=>⟨D.2.1.1,D.2.2⟩)).trans (uH (a:=⟨bo,3,none⟩) (λ h=>h.2.1.2 (.inr (.inr rfl))) _)
       have g3:z39 (λ k=>w9.heap.size<=k/\NE (EO o bc bo) (w1.alloc (.cells #[.slice aS nS kS] 35)) k/\some k≠(Value.slice oa on oc).ownBlock) (w1.alloc (.cells #[.slice aS nS kS] 35)) (xs ++ [.slice aS nS kS]) (R.2.map Z5 ++ [Z5 A.2]):=by
        refine z39.snoc ?_ ?_
        ·have i7:=i8.o.to (S':=λ k=>w9.heap.size<=k/\NE (EO o bc bo) w1 k/\some k≠(Value.slice oa on oc).ownBlock) (λ k D=>au.o.block k D.2.1.1 (λ e=>D.2.1.2 (.inl e)) (λ e=>D.2.1.2 (.inr (.inl e)))) (λ k D=>⟨D.1,⟨zU D.2.1.1 au.o.size,D.2.1.2⟩,D.2.2⟩);exact i7.to (uM av (λ k D=>D.2.1.1)) (λ k D=>⟨D.1,⟨zU D.2.1.1 av.size,D.2.1.2⟩,D.2.2⟩)
        ·exact i0.o.to (uM av (λ k D=>D.2.1)) (λ k D=>⟨zT J.o.size D.1,⟨zU D.2.1 av.size,λ e=>by
          rcases e with e|e|e
          ·exact D.2.2.1 e
          ·exact D.2.2.2 e
          ·have q1:=D.1;have q2:=ag.o.lt
           omega⟩,λ e=>by
          have q1:=D.1;have q2:=(HW.o.lt k e.symm).2
          omega⟩)
       exact g3.to hP b7
  ·obtain rfl:i=nb:=by omega
   have hR:R=YN o s f ls:=by
    rw[cd.o,a0.o,d9.o,kp.o,HX.o,ai.o.2];rfl
   have cB:=Z_ hR;have e1:=HD.o.c1;have O:=Z_ (cz.o.2.1.ge J.o (ay.o _ (zw _) (by have:=I.o;omega)));have r0:=O.o.c0;have r1:=O.o.c1;have r2:=O.o.c2;have r3:=O.o.c3;have r4:=O.o.fz 0;have r5:=O.o.fz 1;have r6:=O.o.fz 2;have r7:=O.o.fz 3;have hn:Hd (W.grownBy wo o):=Z_ (J.o.gb dt.o (by have:=I.o;omega) (by have:=I.o;omega));have ap:Hd (∀b,o=some b->b≠W.heap.size+1):=Z_ (λ b hb=>by have:=HO.o b hb;omega);clear hR d3
   by_cases Z:R.1.1=0
   ·rw[Z]at e1
    have hq:YP o s f ls=(0,R.1.2,WE (WI o s f ls)):=by
     unfold YP;rw[if_neg (by rw[d7.o];exact λ h=>h rfl),<-cB.o,if_neg (by rw[Z];exact λ h=>h rfl)]
    have cp:=Z_ hq;have h6:=HQ.o.short d7.o (by rw[<-cB.o];exact Z);have HR00:=Z_ Z;clear hq Z;obtain⟨k,n,K,fP,fB,fd,eB,g7,fg⟩:=h6
    have dm:WI o s f ls=⟨N,X.2.2.1,R.2⟩:=by
     unfold WI;rw[cB.o,a0.o,HX.o]
    rw[dm]at fP fB eB cp;have aq:R.2.length=i:=by rw[cd.o,Ky]
    have hW:=HW.o;have e2:i=(R.2.map Z5).length:=by rw[zE,aq]
    rw[e2]at hW;have gn:z1w (Z2 wo) wo (.slice oa on oc) (R.2.map Z5):=QM hW (HY.o.to (uN _ _) (λ k D=>D.2.1.1)) (λ k q1 q2=>q2)
    have c7:DerV (Z2 wo) wo (.agg #[.bool gN,.slice aN nN kN,.slice aR nR kR,.slice oa on oc]) ⟨N,X.2.2.1,R.2⟩ :=
     ⟨_,_,_,by rw[et.o],(d4.o.to J.o.kept (Xu J.o.size)).to (uN _ _) (λ k D=>D.1),(hU.o.to J.o.kept (Xu J.o.size)).to (uN _ _) (λ k D=>D.1),gn⟩
    have CS:=Z_ (Lq (W:=wo) c7 (by rw[a0.o];exact Int.natCast_pos.2 (OJ (λ d hd=>by
     rcases zJ.1 hd with rfl|hd
     ·exact HQ.o.hf.pos
     ·exact(HQ.o.hls d hd).pos))) fP fB fd (by show R.2.length<=_;rw[aq,ai.o.2];exact HQ.o.hm) eB g7 fg)
    have b0:=ag.o.c0;have b1:=ag.o.c1;have b2:=ag.o.c2;have b3:=ag.o.c3;clear fP fB fd eB g7 fg dm aq hW e2 gn c7 r0 r1 r2 r3 r4 r5 r6 r7;go_wp2_with fail;(with_reducible refine CS.o.mono ?_);rintro e w2 ⟨v2,rfl,⟨vn,vp2,vb,rfl,hu,ht,hp⟩,hx⟩;have fv:=Z_ hx;have hZ:=Z_ hu;have i6:=Z_ ht;have g8:=Z_ hp;have aa:=Z_ (O.o.ext hx);have r0:=aa.o.c0;have r1:=aa.o.c1;have r2:=aa.o.c2;have r3:=aa.o.c3;have r4:=aa.o.fz 0;have r5:=aa.o.fz 1;have r6:=aa.o.fz 2;have r7:=aa.o.fz 3;obtain⟨a1,k1,rfl⟩:=hu.form;obtain⟨a2,k2,rfl⟩:=ht.form;obtain⟨a3,k3,rfl⟩:=hp.form;obtain⟨n3,gu⟩:∃n,n=((WE ⟨N,X.2.2.1,R.2⟩).By.map Z5).length:=⟨_,rfl⟩
    rw[<-gu]at g8⊢;clear hu ht hp hx CS b0 b1 b2 b3 gu;go_wp2
    all_goals
     have ah:=λ x y z t=>X8 (b:=W.heap.size+1) x y z t aa.o.c0 aa.o.c1 aa.o.c2 aa.o.c3;refine bodyPost_ret (by simp[results,Tryz.results42,go_sem,(ah _ _ _ _).1,(ah _ _ _ _).2.1,(ah _ _ _ _).2.2.1,(ah _ _ _ _).2.2.2];rfl) rfl ?_;rw[cp.o];have hWs:W.heap.size+1<wo.heap.size:=O.o.lt;have ed:∀(x y z t:Value),Kept (New wo w2) w2 ((((w2.setCell ⟨W.heap.size+1,0,none⟩ x).setCell ⟨W.heap.size+1,1,none⟩ y).setCell ⟨W.heap.size+1,2,none⟩ z).setCell ⟨W.heap.size+1,3,none⟩ t):=λ x y z t=>(ux (S:=New wo w2) (λ h=>by have:=h.1;omega) x y z).trans (uH (a:=⟨W.heap.size+1,3,none⟩) (λ h=>by have:=h.1;simp only at this;omega) t);have hS:∀(x y z t:Value),((((w2.setCell ⟨W.heap.size+1,0,none⟩ x).setCell ⟨W.heap.size+1,1,none⟩ y).setCell ⟨W.heap.size+1,2,none⟩ z).setCell ⟨W.heap.size+1,3,none⟩ t).heap.size=w2.heap.size:=λ x y z t=>by simp only[z03]
     have b7:∀(x y z t:Value) k,New wo w2 k->W.heap.size<=k/\NB o ((((w2.setCell ⟨W.heap.size+1,0,none⟩ x).setCell ⟨W.heap.size+1,1,none⟩ y).setCell ⟨W.heap.size+1,2,none⟩ z).setCell ⟨W.heap.size+1,3,none⟩ t) k:=λ x y z t k D=>⟨by have:=D.1;omega,by rw[hS];exact D.2,λ e=>by have:=HO.o k e.symm;have:=D.1;omega⟩;have hg:=λ(x y z t:Value)=>((((((Xf hn.o).trans (YR fv.o)).setf (a:=⟨W.heap.size+1,0,none⟩) (zw _) x).setf (a:=⟨W.heap.size+1,1,none⟩) (zw _) y).setf (a:=⟨W.heap.size+1,2,none⟩) (zw _) z).setf (a:=⟨W.heap.size+1,3,none⟩) (zw _) t).gbo;exact⟨_,rfl,((((HM.o.ext fv.o).set ap.o (a:=⟨W.heap.size+1,0,none⟩) rfl _).set ap.o (a:=⟨W.heap.size+1,1,none⟩) rfl _).set ap.o (a:=⟨W.heap.size+1,2,none⟩) rfl _).set ap.o (a:=⟨W.heap.size+1,3,none⟩) rfl _,hg _ _ _ _,_,_,_,rfl,hZ.o.to (ed _ _ _ _) (b7 _ _ _ _),i6.o.to (ed _ _ _ _) (b7 _ _ _ _),g8.o.to (ed _ _ _ _) (b7 _ _ _ _)⟩
   ·have hq:YP o s f ls=(R.1.1,R.1.2,⟨0,[],[]⟩):=by
     unfold YP;rw[if_neg (by rw[d7.o];exact λ h=>h rfl),<-cB.o,if_pos Z]
    have cp:=Z_ hq;obtain⟨e9,hD⟩:∃e,e=R.1.1:=⟨_,rfl⟩
    rw[<-hD]at e1 cp Z;have hx1:(e9 != 0)=true:=by rw[bne_iff_ne];exact Z
    have e1s:=YJ (b:=W.heap.size+1) e1 (by have:=I.o;omega) (.bool false) (.slice none 0 0) (.slice none 0 0) (.slice none 0 0);clear hq hD Z;go_wp2_with fail
    go_region_with (fail)
    all_goals
     go_wp2;have ah:=λ x y z t=>X8 (b:=W.heap.size+1) x y z t O.o.c0 O.o.c1 O.o.c2 O.o.c3;refine bodyPost_ret (by simp[results,Tryz.results42,go_sem,(ah _ _ _ _).1,(ah _ _ _ _).2.1,(ah _ _ _ _).2.2.1,(ah _ _ _ _).2.2.2];rfl) rfl ?_;rw[cp.o];have hg:=(((((Xf hn.o).setf (a:=⟨W.heap.size+1,0,none⟩) (zw _) (.bool false)).setf (a:=⟨W.heap.size+1,1,none⟩) (zw _) (.slice none 0 0)).setf (a:=⟨W.heap.size+1,2,none⟩) (zw _) (.slice none 0 0)).setf (a:=⟨W.heap.size+1,3,none⟩) (zw _) (.slice none 0 0)).gbo;exact⟨_,rfl,((((HM.o.set ap.o (a:=⟨W.heap.size+1,0,none⟩) rfl _).set ap.o (a:=⟨W.heap.size+1,1,none⟩) rfl _).set ap.o (a:=⟨W.heap.size+1,2,none⟩) rfl _).set ap.o (a:=⟨W.heap.size+1,3,none⟩) rfl _).ext (uI (uP _)),YV hg (Y7 (uI (uP _)) o),MZ _ _⟩
end
section
open Go.RowKit
theorem J9{S:Nat->Prop}(ls:List DZ)(v:Value)(w:World)(h:Ders S w v ls)(hS:∀k,S k->k<w.heap.size)(hl:ls.length<=1000000) :
  Calls Tryz.prog 78 #[v] w λ e w'=>∃v',e=.returned v'/\z1w (ZG S w w') w' v' ((ls.map DZ.P).map Z5)/\Ext w w':=by
 have HP:=Z_ h;have al:=h.len_le;obtain⟨a,c,rfl⟩:=h.form;obtain⟨n,hn⟩:∃n,n=ls.length:=⟨_,rfl⟩
 rw[<-hn]at HP al hl⊢;have HN:=Z_ hn;have X:=Z_ hS;have HL:=Z_ hl;clear h hn hS hl
 go_enter Tryz.func78,Tryz.ntmps78
 go_wp2
 go_loopw [2,7] (λ o i wr=>∃(k:Nat) (xs:List Value),k<=n/\i=.int .i64 (k:Nat)/\Hd (Ext w wr)/\Hd (wr.ownsRow w.heap.size 35 1 o k xs)/\Hd (z39 S wr xs (((ls.take k).map DZ.P).map Z5))) (λ _ i _=>n-(intOf i).toNat)
 case atStart=>exact⟨0,[],zL _,rfl,Z_ (uP _),World.ownsRow_nil _ _ _ _,z39.nil _ _⟩
 case round=>
  obtain⟨k,xs,hk,rfl,HX,HW,HY⟩:=hrel
  by_cases ah:k<n
  ·obtain⟨d,hd⟩:=ZN (l:=ls) (j:=k) (by rw[<-HN.o];exact ah);obtain⟨b,o,vm,vp,vb,rfl,-,h2,h3,-,h5,h6,h7,h8,h9,I,Z⟩:=(HP.o.ext HX.o X.o).cellAt hd;have D:=Z_ I;have ag:Hd (((ls.take (k+1)).map DZ.P).map Z5=((ls.take k).map DZ.P).map Z5 ++ [Z5 d.P]):=Z_ (by rw[zv,hd];simp);obtain⟨am,cm,rfl⟩:=h9.form;obtain⟨ap,cp,rfl⟩:=I.form;obtain⟨ab,cb,rfl⟩:=Z.form;obtain⟨nm,aa⟩:∃n,n=(Z8 d.N).mag.length:=⟨_,rfl⟩
   obtain⟨bm,O⟩:∃n,n=(Z8 d.N).neg:=⟨_,rfl⟩
   obtain⟨np,U⟩:∃n,n=(Z5 d.P).length:=⟨_,rfl⟩
   obtain⟨nb,ac⟩:∃n,n=(d.By.map Z5).length:=⟨_,rfl⟩
   rw[<-aa]at h6;rw[<-O]at h5;rw[<-U]at h7 D;rw[<-ac]at h8;clear hd h9 I Z aa O U ac;obtain⟨W,hW⟩:∃Y,Y=wr.alloc (.cells #[.bool bm,.slice am nm cm,.slice ap np cp,.slice ab nb cb] 48):=⟨_,rfl⟩
   have y:Hd (Ext wr W):=Z_ (by rw[hW];exact uO (uP wr) _);have K:=Z_ (Zp HW.o y.o);have J:=Z_ (HX.o.trans y.o);have af:Hd (k<=1000000000):=Z_ (by have:=HL.o;omega);have ai:Hd (z39 S W (xs++(#[.slice ap np cp]:Array Value).toList) (((ls.take k).map DZ.P).map Z5 ++ [Z5 d.P])):=Z_ ((HY.o.to (uM y.o (λ k hk=>zU (X.o k hk) HX.o.size)) (λ _ h=>h)).snoc (D.o.to (uM y.o (λ k hk=>zU (X.o k hk) HX.o.size)) (λ _ h=>h)))
   go_upto_region 4 with fail
   have e0:=(uP W).cell (by rw[hW];exact(uP _).new_cell (i:=2) rfl);rw[<-hW];clear hW h5 h6 h7 h8;go_wp2_with (at_builtin;refine XK _ rfl (.tmp 11) (.tmp 14) 46 rfl w.heap.size 35 (.slice none 0 0) 1 24 Tryz.underlying46 uv rfl (by decide) _ k xs rfl K.o #[.slice ap np cp] rfl (QY rfl) rfl af.o (by decide) J.o.size ?_;intro v4 w4 z hg ae;have aj:=Z_ z;have ad:=Z_ hg;have HBK:=Z_ ae;clear z hg ae)
   go_roundw
   case rel=>
    refine⟨k+1,xs++(#[.slice ap np cp]:Array Value).toList,by omega,by go_num,Z_ (XH J.o K.o ad.o),aj,Z_ ?_⟩;rw[ag.o];exact ai.o.to (uJ ad.o (λ i hi=>⟨zU (X.o i hi) J.o.size,λ e=>by have:=(K.o.lt i e.symm).1;have:=X.o i hi;omega⟩)) (λ _ h=>h)
   case measure=>simp only[intOf];omega
  ·obtain rfl:k=n:=by omega
   have HO:=Z_ (QM (S:=ZG S w wr) (l:=(ls.map DZ.P).map Z5) (by simp only[zE];rw[<-HN.o];exact HW.o) (by
    have q:=HY.o;rw[zN (by rw[<-HN.o];exact zR _)]at q
    exact q.to (uN _ _) (λ _ h=>.inl h)) (λ k h1 h2=>.inr ⟨h1,h2⟩))
   go_wp2
   all_goals
    go_ret;exact⟨_,rfl,HO.o,HX.o⟩
end
end Go.Proofs.YtlbohjnfkhemlaaGreat
