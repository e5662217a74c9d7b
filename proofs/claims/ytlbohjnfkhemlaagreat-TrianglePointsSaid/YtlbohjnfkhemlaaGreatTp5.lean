/- Limbs added to others from a place on. -/
import Derived.Test.YtlbohjnfkhemlaaGreatProg
import Derived.Tactics
import Derived.Tactics2
import Derived.Defers
import Derived.Laws.Pointers
import Derived.Laws.LoneSync
import Derived.RegionTactic
import Derived.RegionCalls
import Derived.ChangeAlike
import Derived.Laws.NewBlocks
import Derived.WalkKit
import Derived.BigQuiet
import Derived.Deep.QuietTactic
import Derived.StillTailTactics
import Derived.Test.YtlbohjnfkhemlaaGreatTp4
set_option maxRecDepth 100000
set_option maxHeartbeats 16000000
namespace Go.Proofs.YtlbohjnfkhemlaaGreat
section
open Go.RowKit
theorem FW{B:Nat}{l:List Nat}{i d:Nat}(hi:i<l.length):val B (l.set i d)+B^i*dg l i=val B l+B^i*d:=by
 have z:=Xv (B:=B) l i;have y:=Xv (B:=B) (l.set i d) i;rw[yy,show min i l.length=i by omega]at y;rw[show min i l.length=i by omega]at z;rw[List.take_set_of_le (by omega)]at y;rw[z1t]at z y;have D:dg (l.set i d) i=d:=by unfold dg;rw[xV];simp[hi]
 have I:(l.set i d).drop (i+1)=l.drop (i+1):=by rw[List.drop_set_of_lt (by omega)]
 rw[D,I]at y;rw[z,y,zy,zy];omega
theorem Di{o oi bs:List Nat}{at_ i c x u:Nat}(hl:i<oi.length)(hai:at_<=i)(h:val Z9 oi+Z9^i*c=val Z9 o+Z9^at_*val Z9 (bs.take (i-at_)))(hx:dg bs (i-at_)=x)(hu:dg oi i=u) :
  val Z9 (oi.set i ((c+u+x) % Z9))+Z9^(i+1)*((c+u+x) / Z9)=val Z9 o+Z9^at_*val Z9 (bs.take (i+1-at_)):=by
 have z:=FW (B:=Z9) (d:=(c+u+x) % Z9) hl;rw[hu]at z;have e:i+1-at_=(i-at_)+1:=by omega
 rw[e,z26,hx,zy,<-zu,<-yH,show at_+(i-at_)=i by omega,yY,zu];have y:Z9^i*(Z9*((c+u+x) / Z9)+(c+u+x) % Z9)=Z9^i*(c+u+x):=by rw[xr]
 rw[zy,zy,zy]at y;omega
theorem Es{o oi bs:List Nat}{at_ c cap:Nat}(ha:at_<=cap)(hoi:∀z∈oi,z<Z9)(has:∀z∈bs,z<Z9)(lo:oi.length=cap)(h:val Z9 oi+Z9^cap*c=val Z9 o+Z9^at_*val Z9 (bs.take (cap-at_)))(hroom:val Z9 o+Z9^at_*val Z9 bs<Z9^cap) :
  val Z9 oi=val Z9 o+Z9^at_*val Z9 bs:=by
 have D:=Xv (B:=Z9) bs (cap-at_);have hP:0<Z9^at_:=yK (by decide)
 have I:val Z9 bs=val Z9 (bs.take (cap-at_)):=by
  by_cases J:cap-at_<=bs.length
  ·rw[xR J]at D;have K:Z9^at_*val Z9 bs<Z9^at_*Z9^(cap-at_):=by rw[<-yH,show at_+(cap-at_)=cap by omega];omega
   have h2:=xw K
   rcases zj (val Z9 (bs.drop (cap-at_))) with y|y
   ·rw[y,yw,zp]at D;exact D
   ·have:=y9 (Z9^(cap-at_)) y;omega
  ·rw[zN (by omega)]
 rw[<-I]at h
 rcases zj c with y|y
 ·rw[y,yw,zp]at h;exact h
 ·have:=y9 (Z9^cap) y;omega
theorem Q9{S:Nat->Prop}{w:World}{g cap at_:Nat}{o bs:List Nat}(va:Value)(hrow:w.rowIs g 75 cap (rowU o))(lo:o.length=cap)(hol:∀z∈o,z<Z9)(hv:U32s S w va bs)(hS:∀j,S j->j<w.heap.size/\j≠g)(ha:at_<=cap)(hcap:cap<=1000000000000)(hla:bs.length<=1000000000000)
  (hroom:val Z9 o+Z9^at_*val Z9 bs<Z9^cap) :
  Calls Tryz.prog 167 #[.slice (some ⟨g,0,none⟩) cap cap,va,.int .i64 (at_:Nat)] w λ e w'=>∃o':List Nat,e=.returned (.tuple #[])/\o'.length=cap/\(∀z∈o',z<Z9)/\val Z9 o'=val Z9 o+Z9^at_*val Z9 bs /\
   w'.rowIs g 75 cap (rowU o')/\w.grownBy w' (some g)/\w'.heap.size=w.heap.size:=by
 have ai:=Z_ hrow;have aq:=Z_ (zS lo hol);have HV:=Z_ hv;have aA:=Z_ hroom;have ax:=Z_ hv.lt;obtain⟨av,cv,rfl⟩:=hv.form;obtain⟨la,hl⟩:∃la,la=bs.length:=⟨_,rfl⟩
 rw[<-hl]at HV hla⊢;have Z:=Z_ hl;clear hrow hol lo hv hroom hl
 go_enter Tryz.func167,Tryz.ntmps167
 go_wp2
 go_loopw [6,7] (λ s6 s7 wr=>∃(i c:Nat) (oi:List Nat),s6=.int .u64 (c:Nat)/\s7=.int .i64 (i:Nat)/\at_<=i/\i<=cap/\c<=1/\Hd (oi.length=cap/\(∀z∈oi,z<Z9)/\val Z9 oi+Z9^i*c=val Z9 o+Z9^at_*val Z9 (bs.take (i-at_))) /\
  wr.rowIs g 75 cap (rowU oi)/\w.grownBy wr (some g)/\wr.heap.size=w.heap.size) (λ _ s7 _=>cap-(intOf s7).toNat)
 case atStart=>exact⟨at_,0,o,rfl,rfl,zR _,ha,by omega,Z_ ⟨aq.o.1,aq.o.2,by simp[val]⟩,ai.o,PG _ _,rfl⟩
 case round=>
  obtain⟨i,c,oi,rfl,rfl,aB,hi2,hc,I,hrow,ap,aj⟩:=hrel;have HR:=Z_ hrow;have HG:=Z_ (zS ap aj);clear hrow ap aj
  by_cases ac:i<cap
  ·obtain⟨u,hu⟩:∃u,u=dg oi i:=⟨_,rfl⟩
   have O:u<4294967296:=by rw[hu];exact TX (by decide) I.o.2.1 _
   have hcu:wr.cell? ⟨g,i,none⟩=some (.int .u32 (u:Nat)):=by
    rw[HR.o.cell (i:=i) ac,hu];rfl
   have hfu:=HR.o.frozen i;have hu64:IntKind.u64.wrap (u:Int)=(u:Int):=Yg (yD O (by decide));have HU:=Z_ (zS hu O);obtain⟨j,hj⟩:∃j,i=at_+j:=⟨i-at_,by omega⟩
   have hij:(i:Int)-(at_:Int)=(j:Int):=by omega
   have af:i-at_=j:=by omega
   have HJ:=Z_ (zS hj af)
   have ar:∀t K d:Nat,∀x,dg bs j=x->t=c+u+x->d=t % Z9->K=t / Z9->K<=1 ->
     (∃(i_1 c_1:Nat) (oi_1:List Nat),Value.int IntKind.u64 (K:Nat)=Value.int IntKind.u64 (c_1:Nat)/\Value.int IntKind.i64 ((i:Int)+1)=Value.int IntKind.i64 (i_1:Nat)/\at_<=i_1/\i_1<=cap/\c_1<=1 /\
      Hd (oi_1.length=cap/\(∀z∈oi_1,z<Z9)/\val Z9 oi_1+Z9^i_1*c_1=val Z9 o+Z9^at_*val Z9 (bs.take (i_1-at_))) /\
      (wr.setCell ⟨g,i,none⟩ (.int .u32 (d:Nat))).rowIs g 75 cap (rowU oi_1)/\w.grownBy (wr.setCell ⟨g,i,none⟩ (.int .u32 (d:Nat))) (some g)/\(wr.setCell ⟨g,i,none⟩ (.int .u32 (d:Nat))).heap.size=w.heap.size):=by
    intro t K d x hx ht J y ay;refine⟨i+1,K,oi.set i d,rfl,rfl,by omega,by omega,ay,Z_ ⟨by rw[yy];exact I.o.1,Qb I.o.2.1 (by rw[J];exact yS _ (by decide)),?_⟩,Vq HR.o i d (by rw[I.o.1];exact ac),S8 HG.o.1 rfl _,by rw[z03];exact HG.o.2⟩;have h1:=Di (o:=o) (oi:=oi) (bs:=bs) (at_:=at_) (i:=i) (c:=c) (x:=x) (u:=u) (by rw[I.o.1];exact ac) aB I.o.2.2 (by rw[af];exact hx) hu.symm;rw[<-ht,<-J,<-y]at h1;exact h1
   have ah:=Z_ ar;have hc64:c<18446744073709551616:=by omega
   clear ar hu hj
   by_cases hx:j<la
   ·obtain⟨x,ag⟩:=ZN (l:=bs) (j:=j) (by rw[<-Z.o];exact hx);obtain⟨b1,o1,rfl,-,hn1,hm1,hs1,al,hcx⟩:=(HV.o.to (show Kept S w wr from λ k hk=>HG.o.1.block k (hS k hk).1 (λ e=>(hS k hk).2 (Option.some.inj e))) (λ _ h=>h)).cellAt ag;have hx64:IntKind.u64.wrap (x:Int)=(x:Int):=Yg (yD al (by decide));obtain⟨t0,az⟩:∃t,t=c+u:=⟨_,rfl⟩
    obtain⟨t,ht⟩:∃t,t=c+u+x:=⟨_,rfl⟩
    have au:IntKind.u64.wrap ((c:Int)+(u:Int))=(t0:Int):=by rw[IntKind.wrap_u64];omega
    have hw2:IntKind.u64.wrap ((t0:Int)+(x:Int))=(t:Int):=by rw[IntKind.wrap_u64];omega
    have aa:(t:Int) % 4294967296=((t % Z9:Nat):Int):=by show _=((t % 4294967296:Nat):Int);omega
    have ad:(t:Int) / 4294967296=((t / Z9:Nat):Int):=by show _=((t / 4294967296:Nat):Int);omega
    have D:t / Z9<=1:=by show t / 4294967296<=1;omega
    obtain⟨d,J⟩:∃d,d=t % Z9:=⟨_,rfl⟩
    obtain⟨K,y⟩:∃d,d=t / Z9:=⟨_,rfl⟩
    rw[<-J]at aa;rw[<-y]at ad D;have ae:=Z_ (Zi ag);have U:=Z_ (zS ht (zS J (zS y D)));clear ag al O az ht J y D;go_wp2;exact⟨ah.o t K d x ae.o U.o.1 U.o.2.1 U.o.2.2.1 U.o.2.2.2,by simp only[intOf];omega⟩
   ·have ae:Hd (dg bs j=0):=Z_ (Yv (by rw[<-Z.o];omega))
    by_cases h0:c=0
    ·subst h0
     have X:val Z9 oi=val Z9 o+Z9^at_*val Z9 bs:=by
      have h1:=I.o.2.2;rw[yw,zp,af,zN (by rw[<-Z.o];omega)]at h1;exact h1
     have HE:=Z_ X;clear X;go_wp2
     all_goals
      first|go_end0|refine bodyPost_ret (results_none rfl _ _ _) rfl ?_
      exact⟨oi,rfl,I.o.1,I.o.2.1,HE.o,HR.o,HG.o.1,HG.o.2⟩
    ·obtain rfl:c=1:=by omega
     obtain⟨t,ht⟩:∃t,t=1+u:=⟨_,rfl⟩
     have au:IntKind.u64.wrap (1+(u:Int))=(t:Int):=by rw[IntKind.wrap_u64];omega
     have aa:(t:Int) % 4294967296=((t % Z9:Nat):Int):=by show _=((t % 4294967296:Nat):Int);omega
     have ad:(t:Int) / 4294967296=((t / Z9:Nat):Int):=by show _=((t / 4294967296:Nat):Int);omega
     have D:t / Z9<=1:=by show t / 4294967296<=1;omega
     obtain⟨d,J⟩:∃d,d=t % Z9:=⟨_,rfl⟩
     obtain⟨K,y⟩:∃d,d=t / Z9:=⟨_,rfl⟩
     rw[<-J]at aa;rw[<-y]at ad D;have U:=Z_ (zS ht (zS J (zS y D)));clear O ht J y D;go_wp2;exact⟨ah.o t K d 0 ae.o U.o.1 U.o.2.1 U.o.2.2.1 U.o.2.2.2,by simp only[intOf];omega⟩
  ·obtain rfl:i=cap:=by omega
   have HE:=Z_ (Es ha I.o.2.1 ax.o I.o.1 I.o.2.2 aA.o);go_wp2
   all_goals
    first|go_end0|refine bodyPost_ret (results_none rfl _ _ _) rfl ?_
    exact⟨oi,rfl,I.o.1,I.o.2.1,HE.o,HR.o,HG.o.1,HG.o.2⟩
end
section
open Go.RowKit
theorem R_{a w:World}(h:Ext a w)(n:Nat):Ext a (w.drewN n):=⟨h.os,h.tape,h.output,h.size,h.block⟩
theorem U32s.drop{S:Nat->Prop}{w:World}{zs:List Nat}{a a':Option Addr}{n cap k:Nat}(h:U32s S w (.slice a n cap) zs)(hk:k<=n)(ha:k<n->∃p,a=some p/\a'=some (p.add k)):U32s S w (.slice a' (n-k) (cap-k)) (zs.drop k):=by
 obtain⟨b,off,⟨a1,y,X,h2,K,h4,Z⟩,O⟩:=h;obtain⟨rfl,rfl,rfl⟩:a=a1/\n=zs.length/\cap=y:=by simpa using X
 have J:(zs.drop k).length=zs.length-k:=by rw[yG]
 refine⟨b,off+k,⟨a',cap-k,by rw[J],by omega,zT (uR _ _) K,λ h=>?_,λ h=>Z (by omega)⟩,λ j z hz=>?_⟩
 ·obtain⟨p,U,D⟩:=ha (by omega);have I:=h4 (by omega);rw[U]at I;rw[D,Option.some.inj I];unfold Addr.add
  split
  ·rename_i h7
   rw[h7];rfl
  ·rfl
 ·rw[yx]at hz;have:=O _ _ hz;rw[xh];exact this
theorem Oy{S:Nat->Prop}{w:World}(v:Value)(zs:List Nat)(n:Nat)(h:U32s S w v zs)(hn:n<=1000000000000)(hl:zs.length<=1000000000000) :
  Calls Tryz.prog 166 #[v,.int .i64 (n:Nat)] w λ e w'=>∃v0 v1,e=.returned (.tuple #[v0,v1])/\U32s S w' v0 (zs.take n)/\U32s S w' v1 (zs.drop n)/\Ext w w':=by
 have H:=Z_ h;obtain⟨b,off,⟨a,c,hv,ac,K,Z,hs⟩,y⟩:=h;subst hv;obtain⟨l,J⟩:∃l,l=zs.length:=⟨_,rfl⟩
 rw[<-J]at hl ac H Z hs⊢;have hc3:c<=9223372036854775807:=K;obtain⟨k,hk⟩:∃k,k=min n l:=⟨_,rfl⟩
 have hk2:min (n:Int) (l:Int)=(k:Int):=by omega
 have z:k<=l:=by omega
 have hk4:k<=c:=by omega
 have HK:=Z_ hk;have X:=Z_ J;have HC:=Z_ (zS Z (zS hs y));have K:=Z_ K;clear J Z hs y hk hn;have D:=Z_ (λ(m:Nat) (v:Value) (ds:List Nat) (h:U32s S w v ds)=>(h.to (show Kept S w (w.drewN m) from λ _ _=>rfl) (λ _ h=>h):U32s S (w.drewN m) v ds))
 rcases xj l n with h|h
 ·obtain rfl:k=l:=by have:=HK.o;omega
  have T0:Hd (zs.take n=zs.take k):=Z_ (by rw[zN (by rw[<-X.o];omega),zN (by rw[<-X.o];omega)]);have T1:Hd (zs.drop n=zs.drop k):=Z_ (by rw[zt (by rw[<-X.o];omega),zt (by rw[<-X.o];omega)]);rw[T0.o,T1.o]
  go_enter Tryz.func166,Tryz.ntmps166
  cases a with
  |none=>
   go_wp2
   go_quiet (fail)
   go_wp2
   all_goals
    go_ret2
    refine⟨_,_,rfl,?_,?_,R_ (uP _) _⟩
    ·exact D.o _ _ _ (H.o.take (zR _))
    ·have O:=H.o.drop (a':=none) (zR _) (λ h=>absurd h (yQ _));rw[xZ]at O;exact D.o _ _ _ O
  |some p=>
   go_wp2
   go_quiet (fail)
   obtain⟨q,I⟩:∃q,q=(if c=k then some p else some (p.add k)):=⟨_,rfl⟩
   rw[<-I];have HQ:=Z_ I;clear I;go_wp2
   all_goals
    go_ret2
    refine⟨_,_,rfl,?_,?_,R_ (uP _) _⟩
    ·exact D.o _ _ _ (H.o.take (zR _))
    ·have O:=H.o.drop (a':=q) (zR _) (λ h=>absurd h (yQ _));rw[xZ]at O;exact D.o _ _ _ O
 ·obtain rfl:k=n:=by have:=HK.o;omega
  have h':¬ l<k:=by omega
  go_enter Tryz.func166,Tryz.ntmps166
  cases a with
  |none=>
   have U:l=0:=by
    rcases zj l with h|h
    ·exact h
    ·cases HC.o.1 h
   have aa:=Z_ U;clear U;go_wp2
   go_quiet (fail)
   go_wp2
   all_goals
    go_ret2
    refine⟨_,_,rfl,?_,?_,R_ (uP _) _⟩
    ·exact D.o _ _ _ (H.o.take z)
    ·exact D.o _ _ _ (H.o.drop (a':=none) z (λ h=>by have:=aa.o;omega))
  |some p=>
   go_wp2
   go_quiet (fail)
   obtain⟨q,I⟩:∃q,q=(if c=k then some p else some (p.add k)):=⟨_,rfl⟩
   rw[<-I];have HQ:=Z_ I;clear I;go_wp2
   all_goals
    go_ret2
    refine⟨_,_,rfl,?_,?_,R_ (uP _) _⟩
    ·exact D.o _ _ _ (H.o.take z)
    ·exact D.o _ _ _ (H.o.drop (a':=q) z (λ h=>⟨p,rfl,by rw[HQ.o,if_neg (by omega)]⟩))
end
section
open Go.RowKit
theorem ZW{w W:World}{v:Value}{zs:List Nat}(h:U32s (Z2 w) w v zs)(hx:Ext w W):U32s (Z2 W) W v zs:=h.to (uM hx (λ _ h=>h)) (λ k h=>zU h hx.size)
theorem YQ{w W:World}{v:Value}{zs:List Nat}(h:U32s (New w W) W v zs):U32s (Z2 W) W v zs:=h.to (uN _ _) uK
theorem Pg(B:Nat)(l:List Nat)(n:Nat):val B l=val B (l.take n)+B^n*val B (l.drop n):=by
 have h:=Xv (B:=B) l n
 by_cases hl:n<=l.length
 ·rwa [xR hl]at h
 ·rw[zt (by omega),show val B []=0 from rfl,yw]at h⊢;exact h
theorem Cx(a b c d:Nat):(a+b)*(c+d)-a*c-b*d=a*d+b*c/\a*c<=(a+b)*(c+d)/\b*d<=(a+b)*(c+d)-a*c:=by
 have e:(a+b)*(c+d)=a*c+a*d+(b*c+b*d):=by rw[y8,zy,zy]
 omega
theorem zw0(P a b c d:Nat):(a+P*b)*(c+P*d)=a*c+P*(a*d+b*c)+P*P*(b*d):=by
 have z:a*(P*d)=P*(a*d):=xK _ _ _;have y:P*b*c=P*(b*c):=zu _ _ _;have D:P*b*(P*d)=P*P*(b*d):=by rw[Nat.mul_mul_mul_comm]
 rw[y8,zy,zy,z,y,D,zy];omega
def Su(N:Nat):Prop:=∀(S:Nat->Prop) (va vb:Value) (xs ys:List Nat) (w:World),U32s S w va xs->U32s S w vb ys->(∀k,S k->k<w.heap.size)->max xs.length ys.length<N->max xs.length ys.length<=100000000000 ->
 Calls Tryz.prog 129 #[.int .i64 24,va,vb] w λ e w'=>∃v',e=.returned v'/\U32s (New w w') w' v' (Z4 Z9 (val Z9 xs*val Z9 ys))/\Ext w w'
theorem Bi(N la lb:Nat)(IH:Su N){S:Nat->Prop}(va vb:Value)(xs ys:List Nat)(w:World)(ha:U32s S w va xs)(hb:U32s S w vb ys)(hS:∀k,S k->k<w.heap.size)(hla:xs.length=la)(hlb:ys.length=lb)(hN:N=max la lb)(h24:24<=N)(hr:N<=100000000000) :
  Calls Tryz.prog 153 #[va,vb,.func (.func 129) #[.int .i64 24] #[]] w λ e w'=>∃v',e=.returned v'/\U32s (New w w') w' v' (Z4 Z9 (val Z9 xs*val Z9 ys))/\Ext w w':=by
 obtain⟨n,hn⟩:∃n,n=(N+1) / 2:=⟨_,rfl⟩
 have HN:=Z_ (zS hN (zS h24 hn));have hn1:n+1<N:=by omega
 have ai:((N:Int)+1).tdiv 2=(n:Int):=by rw[wU (by omega)];omega
 have hla':la<=N:=by omega
 have hlb':lb<=N:=by omega
 have hn2:2*n<=N+1:=by omega
 have hn3:N<=2*n:=by omega
 have hN2:N<=la+lb:=by omega
 have CA:=Z_ (Oy va xs n ha (by omega) (by omega));have CB:=Z_ (λ(W:World) (hW:Ext w W)=>Oy vb ys n (hb.ext hW hS) (by omega) (by omega));have aA:=Z_ (zS hla hlb);have cg:=Z_ (zS ha.lt hb.lt);obtain⟨aa,ca,rfl⟩:=ha.form;obtain⟨ab,cb,rfl⟩:=hb.form;rw[hla]at CA⊢;rw[hlb]at CB⊢;clear ha hb hn hla hlb hN
 have ez:(la<lb/\¬ lb<la/\((lb:Int)+1).tdiv 2=(n:Int))∨(¬ la<lb/\¬ lb<la/\(((lb:Int)+1).tdiv 2=(n:Int)/\((la:Int)+1).tdiv 2=(n:Int)))∨(¬ la<lb/\lb<la/\((la:Int)+1).tdiv 2=(n:Int)):=by
  have hN:=HN.o.1
  rcases(show la<lb∨la=lb∨lb<la by omega) with h|h|h
  ·obtain rfl:lb=N:=by omega
   exact .inl ⟨h,by omega,ai⟩
  ·subst h;obtain rfl:la=N:=by omega
   exact .inr (.inl ⟨by omega,by omega,ai,ai⟩)
  ·obtain rfl:la=N:=by omega
   exact .inr (.inr ⟨by omega,h,ai⟩)
 clear ai;rcases ez with ⟨c1,c2,c3⟩|⟨c1,c2,c3,c4⟩|⟨c1,c2,c3⟩
 all_goals
  go_enter Tryz.func153,Tryz.ntmps153
  go_wp2_with fail;refine CA.o.mono ?_;rintro e w1 ⟨a0,a1,rfl,d0,co,y⟩;have d4:=Z_ y;have ep:=Z_ (CB.o w1 y);have d9:=Z_ (d0.to (S':=Z2 w1) (uN _ _) (λ k h=>zU (hS k h) y.size));have ed:=Z_ (co.to (S':=Z2 w1) (uN _ _) (λ k h=>zU (hS k h) y.size));clear d0 co y;go_wp2_with fail;refine ep.o.mono ?_;rintro e w2 ⟨b0,b1,rfl,c6,cA,az⟩;have bu:=Z_ (d4.o.trans az);have au:=Z_ (ZW d9.o az);have a2:=Z_ (ZW ed.o az);have ar:=Z_ (c6.to (S':=Z2 w2) (uN _ _) (λ k h=>zU (hS k h) bu.o.size));have a4:=Z_ (cA.to (S':=Z2 w2) (uN _ _) (λ k h=>zU (hS k h) bu.o.size));clear c6 cA az;obtain⟨x0,aH⟩:∃x,x=xs.take n:=⟨_,rfl⟩
  obtain⟨x1,y⟩:∃x,x=xs.drop n:=⟨_,rfl⟩
  obtain⟨y0,aB⟩:∃x,x=ys.take n:=⟨_,rfl⟩
  obtain⟨y1,aN⟩:∃x,x=ys.drop n:=⟨_,rfl⟩
  rw[<-aH]at au;rw[<-y]at a2;rw[<-aB]at ar;rw[<-aN]at a4;have l0:x0.length<=n:=by rw[aH,zD];omega
  have l1:x1.length<=n:=by rw[y,yG,aA.o.1];omega
  have l2:y0.length<=n:=by rw[aB,zD];omega
  have l3:y1.length<=n:=by rw[aN,yG,aA.o.2];omega
  have HV:Hd (val Z9 xs=val Z9 x0+Z9^n*val Z9 x1/\val Z9 ys=val Z9 y0+Z9^n*val Z9 y1):=Z_ ⟨by rw[aH,y];exact Pg _ _ _,by rw[aB,aN];exact Pg _ _ _⟩;have C1:=Z_ (IH _ _ _ _ _ w2 au.o ar.o (λ _ h=>h) (by omega) (by omega));clear aH y aB aN;go_wp2_with fail;refine C1.o.mono ?_;rintro e w3 ⟨vl,rfl,cj,ad⟩;have d1:=Z_ (bu.o.trans ad);have d3:=Z_ (YQ cj);have b2:=Z_ (ZW au.o ad);have a9:=Z_ (ZW a2.o ad);have cx:=Z_ (ZW ar.o ad);have a3:=Z_ (ZW a4.o ad);have C2:=Z_ (IH _ _ _ _ _ w3 a9.o a3.o (λ _ h=>h) (by omega) (by omega));clear cj ad;go_wp2_with fail;refine C2.o.mono ?_;rintro e w4 ⟨vh,rfl,c5,I⟩;have ei:=Z_ (d1.o.trans I);have d6:=Z_ (ZW d3.o I);have eh:=Z_ (YQ c5);have bl:=Z_ (ZW b2.o I);have aS:=Z_ (ZW a9.o I);have cz:=Z_ (ZW cx.o I);have dr:=Z_ (ZW a3.o I);have C3:=Z_ (Q_ _ _ _ _ w4 bl.o aS.o (λ _ h=>h) (by omega) (by omega));clear c5 I;go_wp2_with fail;refine C3.o.mono ?_;rintro e w5 ⟨vs1,rfl,cd,ac⟩;have en:=Z_ (ei.o.trans ac);have d8:=Z_ (ZW d6.o ac);have d2:=Z_ (ZW eh.o ac);have a7:=Z_ (ZW cz.o ac);have bf:=Z_ (ZW dr.o ac);have ec:=Z_ (YQ cd);have C4:=Z_ (Q_ _ _ _ _ w5 a7.o bf.o (λ _ h=>h) (by omega) (by omega));clear cd ac;go_wp2_with fail;refine C4.o.mono ?_;rintro e w6 ⟨vs2,rfl,ci,ae⟩;have d7:=Z_ (en.o.trans ae);have el:=Z_ (ZW d8.o ae);have er:=Z_ (ZW d2.o ae);have c7:=Z_ (ZW ec.o ae);have cp:=Z_ (YQ ci);have dp:(Z4 Z9 (val Z9 x0+val Z9 x1)).length<=n+1:=QL (zT (XL bl.o.lt) l0) (zT (XL aS.o.lt) l1);have dm:(Z4 Z9 (val Z9 y0+val Z9 y1)).length<=n+1:=QL (zT (XL a7.o.lt) l2) (zT (XL bf.o.lt) l3);have C5:=Z_ (IH _ _ _ _ _ w6 c7.o cp.o (λ _ h=>h) (by omega) (by omega));have eo:=Z_ (zS dp dm);rw[ZB ZU,ZB ZU]at C5;clear ci ae dp dm;go_wp2_with fail;refine C5.o.mono ?_;rintro e w7 ⟨vm,rfl,c8,aR⟩;have e0:=Z_ (d7.o.trans aR);have bv:=Z_ (ZW el.o aR);have cB:=Z_ (ZW er.o aR);have dq:=Z_ (YQ c8);obtain⟨X,ay⟩:∃x,x=val Z9 x0:=⟨_,rfl⟩
  obtain⟨U,ax⟩:∃x,x=val Z9 x1:=⟨_,rfl⟩
  obtain⟨O,ah⟩:∃x,x=val Z9 y0:=⟨_,rfl⟩
  obtain⟨Z,aq⟩:∃x,x=val Z9 y1:=⟨_,rfl⟩
  rw[<-ay,<-ax,<-ah,<-aq]at dq;rw[<-ay,<-ah]at bv;rw[<-ax,<-aq]at cB;rw[<-ay,<-ax,<-ah,<-aq]at HV;have bB:=Z_ (Cx X U O Z)
  have cQ:Hd ((Z4 Z9 ((X+U)*(O+Z))).length<=50000000000000):=Z_ (by
   have h1:=eo.o;rw[<-ay,<-ax,<-ah,<-aq]at h1;have h2:=UK (a:=X+U) (b:=O+Z) (k:=2*(n+1)) (by unfold Zn;omega);unfold Zn at h2
   omega)
  have C6:=Z_ (Sw _ _ _ _ w7 dq.o bv.o (λ _ h=>h) cQ.o (by rw[ZB ZU,ZB ZU];exact bB.o.2.1));rw[ZB ZU,ZB ZU]at C6;clear c8 aR ay ax ah aq;go_wp2_with fail;refine C6.o.mono ?_;rintro e w8 ⟨vm2,rfl,c0,aG⟩;have eB:=Z_ (e0.o.trans aG);have eg:=Z_ (ZW bv.o aG);have dt:=Z_ (ZW cB.o aG);have et:=Z_ (YQ c0);have C7:=Z_ (Sw _ _ _ _ w8 et.o dt.o (λ _ h=>h) (zT (Yp (uR _ _)) cQ.o) (by rw[ZB ZU,ZB ZU];exact bB.o.2.2));rw[ZB ZU,ZB ZU,bB.o.1]at C7;clear c0 aG;go_wp2_with fail;refine C7.o.mono ?_;rintro e w9 ⟨eq,rfl,c9,aF⟩;have eR:=Z_ (eB.o.trans aF);have cP:=Z_ (ZW eg.o aF);have cF:=Z_ (ZW dt.o aF);have b3:=Z_ (YQ c9);obtain⟨cap,ds⟩:∃cap,cap=la+lb+2:=⟨_,rfl⟩
  have hcap2:(la:Int)+(lb:Int)+2=(cap:Int):=by omega
  have D:cap<=1000000000000:=by omega
  have em:=run_make_row' (P:=Tryz.prog) 26 75 (.int .u32 0) 4 Tryz.underlying26 uC rfl .i64 .i64 cap (by omega) (by omega) w9;have bN:=Z_ (Tc w9 cap 75);have aP:=Z_ (uO (uP w9) (.cells (madeCells #[.int .u32 0] cap) 75));obtain⟨cu,ap⟩:∃W,W=w9.alloc (.cells (madeCells #[.int .u32 0] cap) 75):=⟨_,rfl⟩
  obtain⟨g,hg⟩:∃g,g=w9.heap.size:=⟨_,rfl⟩
  rw[<-ap,<-hg]at em bN;rw[<-ap]at aP;have HG:=Z_ hg
  have bb:val Z9 xs*val Z9 ys=X*O+Z9^n*(X*Z+U*O)+Z9^(2*n)*(U*Z):=by
   rw[HV.o.1,HV.o.2,zw0,show 2*n=n+n by omega,yH]
  have bt:val Z9 xs*val Z9 ys<Z9^cap:=by
   have h1:=Y4 xs cg.o.1;have h2:=Y4 ys cg.o.2;rw[aA.o.1]at h1;rw[aA.o.2]at h2;have h3:val Z9 xs*val Z9 ys<Z9^la*Z9^lb:=xc h1 h2;rw[<-yH]at h3;exact zU h3 (zA (by decide) (by omega))
  have ch:=Z_ bb;have aC:X*O<Z9^cap:=by omega
  have cG:X*O+Z9^n*(X*Z+U*O)<Z9^cap:=by omega
  have cr:X*O+Z9^n*(X*Z+U*O)+Z9^(2*n)*(U*Z)<Z9^cap:=by omega
  have aj:∀W:World,Ext w9 W->∀j,Z2 w9 j->j<W.heap.size/\j≠g:=λ W h j hj=>⟨zU hj h.size,by rw[hg];exact Nat.ne_of_lt hj⟩;have J:∀v:Value,∀k:Nat,U32s (Z2 w9) w9 v (Z4 Z9 k)->k<Z9^cap->(Z4 Z9 k).length<=1000000000000:=λ v k _ hk=>zT (YZ ZU k cap hk) D;have I1:=Z_ (Q9 (S:=Z2 w9) (w:=cu) (g:=g) (cap:=cap) (at_:=0) (o:=List.replicate cap 0) (bs:=Z4 Z9 (X*O)) vl bN.o (by simp) (λ z hz=>by rw[(wZ.1 hz).2];decide) (cP.o.to (uM aP.o (λ _ h=>h)) (λ _ h=>h)) (aj cu aP.o) (zL _) D (J _ _ cP.o aC) (by rw[z6q,ZB ZU,uZ,yM,zr];exact aC));rw[z6q,ZB ZU,uZ,yM,zr,show((0:Nat):Int)=0 from rfl]at I1;have HR:=Z_ (zS aC (zS cG cr));have a6:=Z_ J;have a8:=Z_ aj;have eP:n<=cap:=by omega
  have d5:2*n<=cap:=by omega
  have hz:U*Z<Z9^cap:=by have:=yk (U*Z) (yK (n:=2*n) (show 0<Z9 by decide));omega
  have b7:X*Z+U*O<Z9^cap:=by have:=yk (X*Z+U*O) (yK (n:=n) (show 0<Z9 by decide));omega
  have HZ:=Z_ (zS hz b7);clear c9 aF ds ap hg bb bt aC cG cr aj J hz b7;go_wp2_with fail;refine I1.o.mono ?_;rintro e b4 ⟨o1,rfl,db,cq,bx,af,bg,cR⟩;have ag:=Z_ (YU aP.o bg (λ k hk=>by cases hk;rw[HG.o];exact zR _));have I2:=Z_ (Q9 (S:=Z2 w9) (w:=b4) (g:=g) (cap:=cap) (at_:=n) (o:=o1) (bs:=Z4 Z9 (X*Z+U*O)) eq af db cq (b3.o.to (uM ag.o (λ _ h=>h)) (λ _ h=>h)) (a8.o b4 ag.o) eP D (a6.o _ _ b3.o HZ.o.2) (by rw[bx,ZB ZU];exact HR.o.2.1));rw[bx,ZB ZU]at I2;clear db cq bx af bg cR;go_wp2_with fail;refine I2.o.mono ?_;rintro e dz ⟨o2,rfl,cy,cm,bA,al,bm,cC⟩;have av:=Z_ (YU ag.o bm (λ k hk=>by cases hk;rw[HG.o];exact zR _));have I3:=Z_ (Q9 (S:=Z2 w9) (w:=dz) (g:=g) (cap:=cap) (at_:=2*n) (o:=o2) (bs:=Z4 Z9 (U*Z)) vh al cy cm (cF.o.to (uM av.o (λ _ h=>h)) (λ _ h=>h)) (a8.o dz av.o) d5 D (a6.o _ _ cF.o HZ.o.1) (by rw[bA,ZB ZU];exact HR.o.2.2));rw[bA,ZB ZU,<-ch.o,show((2*n:Nat):Int)=2*(n:Int) by omega]at I3;clear cy cm bA al bm cC;go_wp2_with fail;refine I3.o.mono ?_;rintro e b6 ⟨o3,rfl,cn,ct,cv,K,bn,df⟩;have dF:=Z_ (YU av.o bn (λ k hk=>by cases hk;rw[HG.o];exact zR _))
  have dG:U32s (λ k=>k=g) b6 (.slice (some ⟨g,0,none⟩) cap cap) o3:=by
   have h1:=uA K (by omega) ct (by omega)
   rwa [cn]at h1
  have C8:=Z_ (XY _ _ b6 dG (λ k hk=>by rw[hk];exact K.lt) (by omega));rw[cv]at C8;clear cn ct cv K bn df dG;go_wp2_with fail;refine C8.o.mono ?_;rintro e w14 ⟨v14,rfl,a5,ba⟩;have cl:=Z_ a5;have cc:=Z_ ba;clear a5 ba;go_wp2
  all_goals
   go_ret;have x9:=eR.o;have ce:=dF.o;have eu:=cc.o;exact⟨_,rfl,cl.o.to (uN _ _) (λ k h=>⟨zT (zT x9.size ce.size) h.1,h.2⟩),(x9.trans ce).trans eu⟩
end
section
open Go.RowKit
theorem Kj(N:Nat)(IH:Su N):Su (N+1):=by
 intro S J K xs ys w z hb hS Z y
 by_cases hc:xs.length<24∨ys.length<24
 ·exact Mw J K xs ys w z hb hS (by omega) hc
 ·have HC:=Z_ (Bi (max xs.length ys.length) xs.length ys.length (λ S J K xs' ys' w h1 h2 h3 h4 h5=>IH S J K xs' ys' w h1 h2 h3 (by omega) h5) J K xs ys w z hb hS rfl rfl rfl (by omega) y);have ad:=z.len_le;have X:=hb.len_le;obtain⟨aa,ca,rfl⟩:=z.form;obtain⟨a2,cb,rfl⟩:=hb.form;clear z hb;obtain⟨n,O⟩:∃n,n=xs.length:=⟨_,rfl⟩
  obtain⟨m,U⟩:∃n,n=ys.length:=⟨_,rfl⟩
  rw[<-O,<-U]at hc y HC;rw[<-O]at ad;rw[<-U]at X;rw[<-O,<-U];clear O U Z;have q1:¬ (n:Int)<24:=by omega
  have q2:¬ (m:Int)<24:=by omega
  have q3:¬ min (n:Int) (m:Int)<24:=by omega
  clear y hc
  go_enter Tryz.func129,Tryz.ntmps129
  go_wp2_with fail
  all_goals
   with_reducible refine HC.o.mono ?_;rintro e w1 ⟨v1,rfl,D,I⟩;have ae:=Z_ D;have ac:=Z_ I;clear D I;go_wp2
   all_goals
    go_ret;exact⟨_,rfl,ae.o,ac.o⟩
theorem I7(N:Nat):Su N:=by
 induction N with
 |zero=>
  intro S va vb xs ys w ha hb hS hlt;exact absurd hlt (uX _)
 |succ N ih=>exact Kj N ih
theorem De{S:Nat->Prop}(va vb:Value)(xs ys:List Nat)(w:World)(ha:U32s S w va xs)(hb:U32s S w vb ys)(hS:∀k,S k->k<w.heap.size)(hr:xs.length<=100000000000)(hr2:ys.length<=100000000000) :
  Calls Tryz.prog 97 #[va,vb] w λ e w'=>∃v',e=.returned v'/\U32s (New w w') w' v' (Z4 Z9 (val Z9 xs*val Z9 ys))/\Ext w w':=by
 have C1:=Z_ (XY va xs w ha hS (by omega));have C2:=Z_ (λ(W:World) (hW:Ext w W)=>XY vb ys W (hb.ext hW hS) (ZM hS hW) (by omega));have C3:=Z_ (λ(W:World) (u v:Value) (hu:U32s (Z2 W) W u (Z4 Z9 (val Z9 xs))) (hv:U32s (Z2 W) W v (Z4 Z9 (val Z9 ys)))=>I7 100000000001 (Z2 W) u v _ _ W hu hv (λ _ h=>h) (by have h1:=XL ha.lt;have h2:=XL hb.lt;omega) (by have h1:=XL ha.lt;have h2:=XL hb.lt;omega));simp only[ZB ZU]at C3;obtain⟨aa,ca,rfl⟩:=ha.form;obtain⟨a2,cb,rfl⟩:=hb.form;clear ha hb
 go_enter Tryz.func97,Tryz.ntmps97
 go_wp2_with fail;with_reducible refine C1.o.mono ?_;rintro e w1 ⟨v1,rfl,D,O⟩;have I:=Z_ O;have Z:=Z_ (D.to (S':=Z2 w1) (uN _ _) uK);obtain⟨a1,c1,rfl⟩:=D.form;clear D O;go_wp2_with fail;with_reducible refine(C2.o _ I.o).mono ?_;rintro e w2 ⟨v2,rfl,z,y⟩;have J:=Z_ (I.o.trans y);have C4:=Z_ (C3.o w2 _ v2 ((Z.o.ext y (λ _ h=>h)).to (uN _ _) (λ k h=>zU h y.size)) (z.to (uN _ _) uK));obtain⟨a3,c3,rfl⟩:=z.form;clear z y;go_wp2_with fail;with_reducible refine C4.o.mono ?_;rintro e w3 ⟨v3,rfl,U,K⟩;have X:=Z_ (J.o.trans K);have ac:=Z_ (U.to (S':=New w w3) (uN _ _) (λ k h=>⟨zT J.o.size h.1,h.2⟩));clear U K;go_wp2
 all_goals
  go_ret;exact⟨_,rfl,ac.o,X.o⟩
theorem UP{S:Nat->Prop}(vx vy:Value)(x y:RInt)(w:World)(hx:IntV S w vx x)(hy:IntV S w vy y)(hS:∀k,S k->k<w.heap.size)(hr:x.mag.length<=100000000000)(hr2:y.mag.length<=100000000000) :
  Calls Tryz.prog 59 #[vx,vy] w λ e w'=>∃v',e=.returned v'/\IntV (New w w') w' v' (Z8 (Z6 x*Z6 y))/\Ext w w':=by
 obtain⟨U,xs⟩:=x;obtain⟨O,ys⟩:=y;obtain⟨vxm,rfl,J⟩:=hx;obtain⟨vym,rfl,K⟩:=hy;simp only at J K hr hr2⊢;have HX:=Z_ J;have HY:=Z_ K;obtain⟨ax,cx,rfl⟩:=J.form;obtain⟨ay,cy,rfl⟩:=K.form;clear J K;have HK:=Z_ (uO (uO (uO (uP w) (.cells #[.bool U,.slice ax xs.length cx] 28)) (.cells #[.bool O,.slice ay ys.length cy] 28)) (.cells #[.bool false,.slice none 0 0] 28));have HXK:=Z_ (HX.o.ext HK.o hS);have HYK:=Z_ (HY.o.ext HK.o hS);have HSK:=Z_ (ZM hS HK.o);have ad:w.heap.size+1+1<(((w.alloc (.cells #[.bool U,.slice ax xs.length cx] 28)).alloc (.cells #[.bool O,.slice ay ys.length cy] 28)).alloc (.cells #[.bool false,.slice none 0 0] 28)).heap.size:=by simp
 have ai:=Z_ ad;clear ad
 have HQ:Hd (Z6 ⟨U,xs⟩ * Z6 ⟨O,ys⟩=sg (U != O) (val Z9 xs*val Z9 ys)):=Z_ (by
  rw[LO]
  rfl)
 obtain⟨b1,b2,b3,b4⟩:=Zf (uP (((w.alloc (.cells #[.bool U,.slice ax xs.length cx] 28)).alloc (.cells #[.bool O,.slice ay ys.length cy] 28)).alloc (.cells #[.bool false,.slice none 0 0] 28)));have c1:=b1 0 _ rfl;have c2:=b1 1 _ rfl;have c3:=b2 1 _ rfl;have c4:=b2 0 _ rfl;clear b1 b2 b3 b4;have I:=T_ c1 c2 c3;have ae:=T_ c4 c4 c4;have aj:=Z_ (zS I.1 (zS I.2.1 (zS I.2.2 ae.1)));clear I ae c1 c2 c3 c4
 go_enter Tryz.func59,Tryz.ntmps59
 go_wp2;have I:=aj.o;have HL:Hd ((Z4 Z9 (val Z9 xs*val Z9 ys)).length<=50000000000000):=Z_ (UK (by have h1:=VV HX.o.lt;have h2:=VV HY.o.lt;omega));obtain⟨xy,X⟩:∃b,b=(U != O):=⟨_,rfl⟩
 rw[<-X]at HQ;have hxyq:(!(U == O))=xy:=X.symm;clear X
 go_region_held3 (λ W=>W.cell? ⟨w.heap.size,0,none⟩=some (.bool U)/\W.cell? ⟨w.heap.size,1,none⟩=some (.slice ax xs.length cx)/\W.cell? ⟨w.heap.size+1,1,none⟩=some (.slice ay ys.length cy)/\W.cell? ⟨w.heap.size+1,0,none⟩=some (.bool O)) (first|exact I|exact S1|exact S2|exact⟨ZZ (ZZ S2.1 (ab (by omega))) (ab (by omega)),ZZ (ZZ S2.2.1 (ab (by omega))) (ab (by omega)),ZZ (ZZ S2.2.2.1 (ab (by omega))) (ab (by omega)),ZZ (ZZ S2.2.2.2 (ab (by omega))) (ab (by omega))⟩)
  (first
   |(go_at_call 97;(with_reducible refine(De _ _ xs ys _ (HX.o.ext (HK.o.drew) hS) (HY.o.ext (HK.o.drew) hS) (ZM hS (HK.o.drew)) (by omega) (by omega)).mono ?_);rintro e w1 ⟨v1,rfl,aa,D⟩;have S1:=zS (D.cell I.1) (zS (D.cell I.2.1) (zS (D.cell I.2.2.1) (D.cell I.2.2.2)));have Z:=Z_ D;have af:=Z_ aa;obtain⟨a1,n1,rfl⟩:=aa.form;clear D aa)
   |(go_at_call 64;(with_reducible refine(VW xy _ _ _ af.o uK HL.o).mono ?_);rintro e w2 ⟨v2,rfl,⟨vm2,rfl,ac⟩,z⟩;have S2:=zS (z.cell S1.1) (zS (z.cell S1.2.1) (zS (z.cell S1.2.2.1) (z.cell S1.2.2.2)));have ah:=Z_ z;have ag:=Z_ ac;obtain⟨a2,n2,rfl⟩:=ac.form;obtain⟨-,-,d3,d4⟩:=Zf ((uI (uP _)).trans (Z.o.trans z));have e0:=d3 0 _ rfl;have e1:=d3 1 _ rfl;have HE:=Z_ (zS e0 e1);have f0:=d4 0;have f1:=d4 1;clear d3 d4 z ac))
 all_goals
  go_wp2;have hd:=λ x y=>YY x y HE.o.1 HE.o.2;refine bodyPost_ret (by simp[results,Tryz.results59,go_sem,(hd _ _).1,(hd _ _).2];rfl) rfl ?_;have hg:=Xi (w0:=w) (b:=w.heap.size+1+1) rfl ag.o (HK.o.drew.trans Z.o) ah.o (by omega) (zU ai.o Z.o.size) (.bool (Z8 (sg xy (val Z9 xs*val Z9 ys))).neg) (.slice a2 (Z8 (sg xy (val Z9 xs*val Z9 ys))).mag.length n2);rw[HQ.o];exact⟨_,rfl,hg.1,hg.2⟩
end
section
open Go.RowKit
theorem IZ(b:Bool)(n:Nat):sg (!b) n = - sg b n:=by
 unfold sg
 cases b<;>simp
theorem RH{S:Nat->Prop}(vx:Value)(x:RInt)(w:World)(hx:IntV S w vx x)(hS:∀k,S k->k<w.heap.size)(hr:x.mag.length<=50000000000000) :
  Calls Tryz.prog 72 #[vx] w λ e w'=>∃v',e=.returned v'/\IntV (New w w') w' v' (Z8 (- Z6 x))/\Ext w w':=by
 obtain⟨xn,xs⟩:=x;obtain⟨vxm,rfl,D⟩:=hx;simp only at D hr⊢;have HX:=Z_ D;obtain⟨ax,cx,rfl⟩:=D.form;have HQ:Hd (- Z6 ⟨xn,xs⟩=sg (!xn) (val Z9 xs)):=Z_ (by rw[IZ];rfl);rw[HQ.o];obtain⟨w0,z⟩:∃W,W=(w.alloc (.cells #[.bool xn,.slice ax xs.length cx] 28)).alloc (.cells #[.bool false,.slice none 0 0] 28):=⟨_,rfl⟩
 have K:Hd (Ext w w0):=Z_ (by rw[z];exact uO (uO (uP w) _) _);have ac:Hd (w.heap.size+1<w0.heap.size):=Z_ (by rw[z];simp)
 have HB:=Z_ (λ(W:World) (h:Ext w0 W)=>by
  rw[z]at h;have U:=h.new_cell (i:=0) (v:=.bool false) rfl;have e2:=h.new_cell (i:=1) (v:=.slice none 0 0) rfl;have e3:=h.new_free 0;have e4:=h.new_free 1;rw[z00]at U e2 e3 e4
  exact zS U (zS e2 (zS e3 e4)))
 have Z:=Z_ (Ol (!xn) (.slice ax xs.length cx) xs w0 (D.ext K.o hS) (ZM hS K.o) hr);obtain⟨nx,O⟩:∃b,b=(!xn):=⟨_,rfl⟩
 rw[<-O]at Z⊢;have hnot:(!xn)=nx:=O.symm;rw[z]at Z;have X:=Z_ z;clear D z O
 go_enter Tryz.func72,Tryz.ntmps72
 go_wp2_with fail;refine Z.o.mono ?_;rintro e w2 ⟨v2,rfl,⟨vm2,rfl,J⟩,I⟩;rw[<-X.o]at J I;obtain⟨e0,U,f0,f1⟩:=HB.o w2 I;have aa:=Z_ I;have ad:=Z_ J;have HE:=Z_ (zS e0 U);obtain⟨a2,n2,rfl⟩:=J.form;clear J I;go_wp2
 all_goals
  have hd:=λ x y=>YY x y HE.o.1 HE.o.2;refine bodyPost_ret (by simp[results,Tryz.results72,go_sem,(hd _ _).1,(hd _ _).2];rfl) rfl ?_;have hg:=Xi (w0:=w) (b:=w.heap.size+1) rfl ad.o K.o aa.o (by omega) ac.o (.bool (Z8 (sg nx (val Z9 xs))).neg) (.slice a2 (Z8 (sg nx (val Z9 xs))).mag.length n2);exact⟨_,rfl,hg.1,hg.2⟩
end
section
open Go.RowKit
theorem disable(w:World):(callFunc 195 #[]).run Tryz.prog w=.ok (.value (.tuple #[])) w:=run_call_mark0 Tryz.func195 (by kernel_rfl) (by kernel_rfl) (by kernel_rfl) .disable (by kernel_rfl) w
theorem enable(w:World):(callFunc 197 #[]).run Tryz.prog w=.ok (.value (.tuple #[])) w:=run_call_mark0 Tryz.func197 (by kernel_rfl) (by kernel_rfl) (by kernel_rfl) .enable (by kernel_rfl) w
theorem acquire(a:Addr)(w:World):(callFunc 198 #[.pointer (some a)]).run Tryz.prog w=.ok (.value (.tuple #[])) w:=run_call_marked Tryz.func198 (by kernel_rfl) (by kernel_rfl) (by kernel_rfl) .acquire (by kernel_rfl) a w
theorem releaseMerge(a:Addr)(w:World):(callFunc 200 #[.pointer (some a)]).run Tryz.prog w=.ok (.value (.tuple #[])) w:=run_call_marked Tryz.func200 (by kernel_rfl) (by kernel_rfl) (by kernel_rfl) .releaseMerge (by kernel_rfl) a w
theorem B4(a:Addr)(x:Value)(u:FrameMode)(w:World)(hc:w.cell? a=some x)(hz:w.frozen? a=false) :
  CallsD Tryz.prog 185 #[.pointer (some a),.bool true] u w λ e u' w'=>u'=u/\(e=.returned (.tuple #[])/\w'=w.drew.setCell a (.int .u32 1)):=by
 have D:w.drew.cell? a=some x:=by go_simp
 have z:w.drew.frozen? a=false:=by go_simp
 have hst:=run_call_store (P:=Tryz.prog) Tryz.func191 (by kernel_rfl) (by kernel_rfl) (by kernel_rfl) (by kernel_rfl) (k:=.u32) (y:=1) D z
 go_enter_d Tryz.func185,Tryz.ntmps185
 go_wp2
 go_region_calls
 all_goals (go_end0;exact⟨rfl,rfl⟩)
theorem AE(a:Addr)(u:FrameMode)(w:World)(hc:w.cell? a=some (.int .i32 1))(hz:w.frozen? a=false) :
  CallsD Tryz.prog 184 #[.pointer (some a)] u w λ e u' w'=>u'=u/\(e=.returned (.tuple #[])/\w'=w.setCell a (.int .i32 0)):=by
 have hd:=disable;have he:=enable;have hr:=releaseMerge;have hadd:=run_call_add (P:=Tryz.prog) Tryz.func201 (by kernel_rfl) (by kernel_rfl) (by kernel_rfl) .i32 (by kernel_rfl) (y:=-1) (s:=0) hc hz (by simp[go_sem];rfl);have hcv:=run_convert_to_unsafe (P:=Tryz.prog) (src:=261) (dst:=265) Tryz.underlying261 Tryz.underlying265 (by kernel_rfl) hc
 go_enter_d Tryz.func184,Tryz.ntmps184
 go_wp2
 go_end0
 go_wp2
 go_end0
 exact⟨rfl,rfl⟩
theorem AH(a:Addr)(w:World)(hc:w.cell? a=some (.int .i32 0))(hz:w.frozen? a=false) :
  Calls Tryz.prog 183 #[.pointer (some a)] w λ e w'=>e=.returned (.tuple #[])/\w'=w.setCell a (.int .i32 1):=by
 have hd:=disable;have he:=enable;have ha:=acquire;have hcas:=run_call_cas_hit (P:=Tryz.prog) Tryz.func196 (by kernel_rfl) (by kernel_rfl) (by kernel_rfl) .i32 (by kernel_rfl) (y:=1) hc hz;have z:(w.setCell a (.int .i32 1)).cell? a=some (.int .i32 1):=World.cell?_setCell_same w a _ hc;have hcv:=run_convert_to_unsafe (P:=Tryz.prog) (src:=261) (dst:=265) Tryz.underlying261 Tryz.underlying265 (by kernel_rfl) z
 go_enter Tryz.func183,Tryz.ntmps183
 go_wp2
 first|go_end0|(simp only[Exit.inBlock,Exit.then];refine bodyPost_ret (results_none rfl _ _ _) rfl ?_)|refine bodyPost_ret (results_none rfl _ _ _) rfl ?_
 go_wp2
 go_end0
 exact⟨rfl,rfl⟩
theorem LR(a:Addr)(n:Int)(w:World)(hc:w.cell? a=some (.int .i64 n)) :
  Calls Tryz.prog 186 #[.pointer (some a)] w λ e w'=>e=.returned (.int .i64 n)/\w=w':=by
 have hl:=run_call_load (P:=Tryz.prog) Tryz.func193 (by kernel_rfl) (by kernel_rfl) (by kernel_rfl) .i64 (by kernel_rfl) hc
 go_enter Tryz.func186,Tryz.ntmps186
 go_wp2;go_ret;exact⟨rfl,rfl⟩
theorem Ea(a:Addr)(n:Int)(w:World)(hc:w.cell? a=some (.int .i64 n))(hz:w.frozen? a=false)(h0:0<=n)(h1:n<=1000000000) :
  Calls Tryz.prog 187 #[.pointer (some a),.int .i64 1] w λ e w'=>e=.returned (.int .i64 (n+1))/\w.setCell a (.int .i64 (n+1))=w':=by
 have hl:=run_call_add (P:=Tryz.prog) Tryz.func194 (by kernel_rfl) (by kernel_rfl) (by kernel_rfl) .i64 (by kernel_rfl) (y:=1) (s:=n+1) hc hz (by simp only[Op.intArith];have e:IntKind.i64.wrap (n+1)=n+1:=IntWalk.i64_in _ (by omega);simp[go_sem,e])
 go_enter Tryz.func187,Tryz.ntmps187
 go_wp2;go_ret;exact⟨rfl,rfl⟩
end
section
open Go.RowKit
theorem KV(b:Nat)(pe pn pm:Addr)(e n x y:Int)(w:World)
  (he:w.cell? pe=some (.int .i64 e)) (hn:w.cell? pn=some (.int .i64 n)) (hm:w.cell? pm=some (.pointer (some ⟨b,0,none⟩)))
  (h9:w.cell? ⟨b,9,none⟩=some (.int .i64 x)) (h10:w.cell? ⟨b,10,none⟩=some (.int .i64 y))
  (f9:w.frozen? ⟨b,9,none⟩=false) (f10:w.frozen? ⟨b,10,none⟩=false) :
  Calls Tryz.prog 165 #[.pointer (some pe),.pointer (some pn),.pointer (some pm)] w λ r w'=>r=.returned (.tuple #[])/\(w.setCell ⟨b,9,none⟩ (.int .i64 e)).setCell ⟨b,10,none⟩ (.int .i64 n)=w':=by
 go_enter Tryz.func165,Tryz.ntmps165
 go_wp2
 go_end0
 exact⟨rfl,rfl⟩
def VP(w:World)(b:Nat)(e n:Int):World :=
 (((((w.setCell ⟨b,7,none⟩ (.int .i32 1)).setCell ⟨b,9,none⟩ (.int .i64 e)).setCell ⟨b,10,none⟩ (.int .i64 n)).drew.setCell ⟨b,6,none⟩ (.int .u32 1)).setCell ⟨b,7,none⟩ (.int .i32 0))
theorem Rv{b c i:Nat}{p:Addr}(h:p.block≠b)(_:c=b):(⟨c,i,none⟩:Addr)≠p:=by
 intro e;subst e
 simp_all
theorem Bt(b:Nat)(pe pn pm:Addr)(e n x y:Int)(w:World)(hpe:pe.block≠b)(hpn:pn.block≠b)(hpm:pm.block≠b)
  (he:w.cell? pe=some (.int .i64 e)) (hn:w.cell? pn=some (.int .i64 n)) (hm:w.cell? pm=some (.pointer (some ⟨b,0,none⟩)))
  (h6:w.cell? ⟨b,6,none⟩=some (.int .u32 0)) (h7:w.cell? ⟨b,7,none⟩=some (.int .i32 0))
  (h9:w.cell? ⟨b,9,none⟩=some (.int .i64 x)) (h10:w.cell? ⟨b,10,none⟩=some (.int .i64 y))
  (fz:∀i,w.frozen? ⟨b,i,none⟩=false) :
  Calls Tryz.prog 176 #[.pointer (some ⟨b,6,none⟩),.func (.func 165) #[] #[.pointer (some pe),.pointer (some pn),.pointer (some pm)]] w λ r w'=>r=.returned (.tuple #[])/\VP w b e n=w':=by
 have f6:=fz 6;have f7:=fz 7;have Z:=fz 9;have X:=fz 10;clear fz;have hl:=run_call_load (P:=Tryz.prog) Tryz.func182 (by kernel_rfl) (by kernel_rfl) (by kernel_rfl) .u32 (by kernel_rfl) (w:=w.setCell ⟨b,7,none⟩ (.int .i32 1)) (a:=⟨b,6,none⟩) (x:=0) (ZZ h6 (by simp));have J:=ZZ (a:=⟨b,7,none⟩) (v:=.int .i32 1) he (Rv hpe rfl);have I:=ZZ (a:=⟨b,7,none⟩) (v:=.int .i32 1) hn (Rv hpn rfl);have O:=ZZ (a:=⟨b,7,none⟩) (v:=.int .i32 1) hm (Rv hpm rfl);have K:=ZZ (a:=⟨b,7,none⟩) (v:=.int .i32 1) h9 (by simp);have D:=ZZ (a:=⟨b,7,none⟩) (v:=.int .i32 1) h10 (by simp);have hnot:∀(x:Bool) (w:World),(Op.unary .not (.bool x)).run Tryz.prog w=.ok (.bool (!x)) w:=λ _ _=>rfl
 go_enter_defers Tryz.func176,Tryz.ntmps176
 go_wp2_with (first|(go_at_call 183;refine(AH ⟨b,7,none⟩ _ (by go_simp) (by go_simp)).mono ?_;rintro e w' ⟨rfl,rfl⟩)|(go_at_call 165;refine(KV b pe pn pm e n x y _ J I O K D (by simp[Z]) (by simp[X])).mono ?_;rintro e w' ⟨rfl,rfl⟩)|(go_at_call 175;go_in))
 -- the door: two deferred calls,the last laid first
 refine leaves_cons (f:=185) (args:=#[.pointer (some ⟨b,6,none⟩),.bool true]) (by simp) (by simp[go_sem]) ?_
 refine(B4 ⟨b,6,none⟩ (.int .u32 0) .returning _ ?_ (by simp[f6])).mono ?_
 ·exact ZZ (ZZ (ZZ h6 (by simp)) (by simp)) (by simp)
 rintro e u' U ⟨rfl,rfl,rfl⟩;refine leaves_cons (f:=184) (args:=#[.pointer (some ⟨b,7,none⟩)]) (by simp[settle]) (by simp[go_sem]) ?_
 refine(AE ⟨b,7,none⟩ _ _ ?_ (by simp[f7])).mono ?_
 ·refine ZZ ?_ (by simp);rw[World.cell?_drew];exact ZZ (ZZ (World.cell?_setCell_same w _ _ h7) (by simp)) (by simp)
 rintro e u' U ⟨rfl,rfl,rfl⟩;simp[Leaves,settle,results,Tryz.results176,VP]
theorem Fx(b:Nat)(pe pn pm:Addr)(e n x y:Int)(w:World)(hpe:pe.block≠b)(hpn:pn.block≠b)(hpm:pm.block≠b)
  (he:w.cell? pe=some (.int .i64 e)) (hn:w.cell? pn=some (.int .i64 n)) (hm:w.cell? pm=some (.pointer (some ⟨b,0,none⟩)))
  (h6:w.cell? ⟨b,6,none⟩=some (.int .u32 0)) (h7:w.cell? ⟨b,7,none⟩=some (.int .i32 0))
  (h9:w.cell? ⟨b,9,none⟩=some (.int .i64 x)) (h10:w.cell? ⟨b,10,none⟩=some (.int .i64 y))
  (fz:∀i,w.frozen? ⟨b,i,none⟩=false) :
  Calls Tryz.prog 164 #[.pointer (some ⟨b,6,none⟩),.func (.func 165) #[] #[.pointer (some pe),.pointer (some pn),.pointer (some pm)]] w λ r w'=>r=.returned (.tuple #[])/\VP w b e n=w':=by
 have hl:=run_call_load (P:=Tryz.prog) Tryz.func182 (by kernel_rfl) (by kernel_rfl) (by kernel_rfl) .u32 (by kernel_rfl) h6;have hnot:∀(x:Bool) (w:World),(Op.unary .not (.bool x)).run Tryz.prog w=.ok (.bool (!x)) w:=λ _ _=>rfl
 go_enter Tryz.func164,Tryz.ntmps164
 go_wp2_with (first|(go_at_call 176;refine(Bt b pe pn pm e n x y _ hpe hpn hpm he hn hm h6 h7 h9 h10 fz).mono ?_;rintro e w' ⟨rfl,rfl⟩)|(go_at_call 175;go_in))
 go_end0
 exact⟨rfl,rfl⟩
theorem E3(a:Addr)(fv:Value)(w:World)(h6:w.cell? a=some (.int .u32 1)) :
  Calls Tryz.prog 164 #[.pointer (some a),fv] w λ r w'=>r=.returned (.tuple #[])/\w=w':=by
 have hl:=run_call_load (P:=Tryz.prog) Tryz.func182 (by kernel_rfl) (by kernel_rfl) (by kernel_rfl) .u32 (by kernel_rfl) h6;have hnot:∀(x:Bool) (w:World),(Op.unary .not (.bool x)).run Tryz.prog w=.ok (.bool (!x)) w:=λ _ _=>rfl
 go_enter Tryz.func164,Tryz.ntmps164
 go_wp2
 go_end0
 exact⟨rfl,rfl⟩
end
section
open Go.RowKit
theorem WY(w:World)(r:Option Nat):w.grownBy w r:=⟨rfl,rfl,rfl,zR _,λ _ _ _=>rfl⟩
theorem YV{a b c:World}{r:Option Nat}(h:a.grownBy b r)(k:b.grownBy c r):a.grownBy c r :=
 ⟨k.os.trans h.os,k.tape.trans h.tape,k.output.trans h.output,zT h.size k.size,λ i hi hr=>(k.block i (zU hi h.size) hr).trans (h.block i hi hr)⟩
theorem Pz{a w:World}{r:Option Nat}(h:a.grownBy w r)(o:Obj):a.grownBy (w.alloc o) r:=YV h (World.grownBy_alloc w o r)
theorem Sb{a w:World}{r:Option Nat}(h:a.grownBy w r):a.grownBy w.drew r:=⟨h.os,h.tape,h.output,h.size,h.block⟩
theorem U4{a w:World}{b:Nat}(h:a.grownBy w (some b)){p:Addr}(hp:p.block=b)(u:Value):a.grownBy (w.setCell p u) (some b) :=
 YV h ⟨rfl,rfl,rfl,by simp[World.setCell],λ k _ hr=>Below.heap_setCell _ _ _ _ (λ e=>hr (by rw[e,hp]))⟩
structure MSt where
 fu:Int
 li:Int
 te:Int
 pi:Int
 st:Int
 pc:Int
 wh:Int
 nn:Int
 deriving DecidableEq,Inhabited
def MSt.done(s:MSt):Int:=if s.wh=0 then 0 else 1
structure MeterAt (w:World) (b:Nat) (s:MSt):Prop where
 c0:w.cell? ⟨b,0,none⟩=some (.int .i64 s.fu)
 c1:w.cell? ⟨b,1,none⟩=some (.int .i64 s.li)
 c2:w.cell? ⟨b,2,none⟩=some (.int .i64 s.te)
 c3:w.cell? ⟨b,3,none⟩=some (.int .i64 s.pi)
 c4:w.cell? ⟨b,4,none⟩=some (.int .i64 s.st)
 c5:w.cell? ⟨b,5,none⟩=some (.int .i64 s.pc)
 c6:w.cell? ⟨b,6,none⟩=some (.int .u32 s.done)
 c7:w.cell? ⟨b,7,none⟩=some (.int .i32 0)
 c8:w.cell? ⟨b,8,none⟩=some (.int .u32 0)
 c9:w.cell? ⟨b,9,none⟩=some (.int .i64 s.wh)
 c10:w.cell? ⟨b,10,none⟩=some (.int .i64 s.nn)
 fz:∀i,w.frozen? ⟨b,i,none⟩=false
theorem MeterAt.alloc{w:World}{b:Nat}{s:MSt}(h:MeterAt w b s)(o:Obj):MeterAt (w.alloc o) b s:=by
 have hb:b<w.heap.size:=Zj h.c0;have e:Ext w (w.alloc o):=uO (uP w) o;exact⟨e.cell h.c0,e.cell h.c1,e.cell h.c2,e.cell h.c3,e.cell h.c4,e.cell h.c5,e.cell h.c6,e.cell h.c7,e.cell h.c8,e.cell h.c9,e.cell h.c10,λ i=>(Below.frozen e (p:=⟨b,i,none⟩) hb).trans (h.fz i)⟩
theorem MeterAt.kept{w w':World}{b:Nat}{s:MSt}(h:MeterAt w b s){B:Nat}(e:Below B w w')(hb:b<B):MeterAt w' b s :=
 ⟨W9 e hb h.c0,W9 e hb h.c1,W9 e hb h.c2,W9 e hb h.c3,W9 e hb h.c4,W9 e hb h.c5,W9 e hb h.c6,W9 e hb h.c7,W9 e hb h.c8,W9 e hb h.c9,W9 e hb h.c10,λ i=>(Below.frozen e (p:=⟨b,i,none⟩) hb).trans (h.fz i)⟩
theorem MeterAt.grown{w w':World}{b:Nat}{s:MSt}(h:MeterAt w b s){r:Option Nat}(e:w.grownBy w' r)(hb:some b≠r):MeterAt w' b s:=by
 have z:=Zj h.c0;have y:∀i,w'.cell? ⟨b,i,none⟩=w.cell? ⟨b,i,none⟩:=λ i=>World.cell?_of_block (e.block b z hb);exact⟨(y _).trans h.c0,(y _).trans h.c1,(y _).trans h.c2,(y _).trans h.c3,(y _).trans h.c4,(y _).trans h.c5,(y _).trans h.c6,(y _).trans h.c7,(y _).trans h.c8,(y _).trans h.c9,(y _).trans h.c10,λ i=>(World.frozen?_of_block (w:=w) (a:=⟨b,i,none⟩) (e.block b z hb)).trans (h.fz i)⟩
def MSt.refuse(s:MSt)(e n:Int):MSt:=if s.wh=0 then { s with wh:=e,nn:=n } else s
theorem Jm{w:World}{b:Nat}{s:MSt}(h:MeterAt w b s)(h0:s.wh=0)(e n:Int)(he:e≠0):MeterAt (VP w b e n) b (s.refuse e n):=by
 have I:s.refuse e n={ s with wh:=e,nn:=n }:=by simp[MSt.refuse,h0]
 rw[I];unfold VP
 have k:∀i v,i≠7->i≠9->i≠10->i≠6->w.cell? ⟨b,i,none⟩=some v->(((((w.setCell ⟨b,7,none⟩ (.int .i32 1)).setCell ⟨b,9,none⟩ (.int .i64 e)).setCell ⟨b,10,none⟩ (.int .i64 n)).drew.setCell ⟨b,6,none⟩ (.int .u32 1)).setCell ⟨b,7,none⟩ (.int .i32 0)).cell? ⟨b,i,none⟩=some v:=by
  intro i v h7 h9 h10 h6 K;refine ZZ (ZZ ?_ (ao (by omega))) (ao (by omega));rw[World.cell?_drew];exact ZZ (ZZ (ZZ K (ao (by omega))) (ao (by omega))) (ao (by omega))
 have D:(((w.setCell ⟨b,7,none⟩ (.int .i32 1)).setCell ⟨b,9,none⟩ (.int .i64 e)).setCell ⟨b,10,none⟩ (.int .i64 n)).drew.cell? ⟨b,6,none⟩=some (.int .u32 s.done):=by
  rw[World.cell?_drew];exact ZZ (ZZ (ZZ h.c6 (ao (by omega))) (ao (by omega))) (ao (by omega))
 have z:(((w.setCell ⟨b,7,none⟩ (.int .i32 1)).setCell ⟨b,9,none⟩ (.int .i64 e)).setCell ⟨b,10,none⟩ (.int .i64 n)).drew.cell? ⟨b,7,none⟩=some (.int .i32 1):=by
  rw[World.cell?_drew];exact ZZ (ZZ (YT h.c7) (ao (by omega))) (ao (by omega))
 have J:(((w.setCell ⟨b,7,none⟩ (.int .i32 1)).setCell ⟨b,9,none⟩ (.int .i64 e)).setCell ⟨b,10,none⟩ (.int .i64 n)).drew.cell? ⟨b,9,none⟩=some (.int .i64 e):=by
  rw[World.cell?_drew];exact ZZ (YT (ZZ h.c9 (ao (by omega)))) (ao (by omega))
 have y:(((w.setCell ⟨b,7,none⟩ (.int .i32 1)).setCell ⟨b,9,none⟩ (.int .i64 e)).setCell ⟨b,10,none⟩ (.int .i64 n)).drew.cell? ⟨b,10,none⟩=some (.int .i64 n):=by
  rw[World.cell?_drew];exact YT (ZZ (ZZ h.c10 (ao (by omega))) (ao (by omega)))
 refine⟨k 0 _ (by omega) (by omega) (by omega) (by omega) h.c0,k 1 _ (by omega) (by omega) (by omega) (by omega) h.c1,k 2 _ (by omega) (by omega) (by omega) (by omega) h.c2,k 3 _ (by omega) (by omega) (by omega) (by omega) h.c3,
  k 4 _ (by omega) (by omega) (by omega) (by omega) h.c4,k 5 _ (by omega) (by omega) (by omega) (by omega) h.c5,?_,?_,k 8 _ (by omega) (by omega) (by omega) (by omega) h.c8,?_,?_,λ i=>?_⟩
 ·have:MSt.done { s with wh:=e,nn:=n }=1:=by simp[MSt.done,he]
  rw[this];exact ZZ (YT D) (ao (by omega))
 ·exact YT (ZZ z (ao (by omega)))
 ·exact ZZ (ZZ J (ao (by omega))) (ao (by omega))
 ·exact ZZ (ZZ y (ao (by omega))) (ao (by omega))
 ·simp[h.fz i]
theorem Kh(w:World)(b:Nat)(e n:Int):w.grownBy (VP w b e n) (some b):=by
 unfold VP;have D:=U4 (WY w (some b)) (p:=⟨b,7,none⟩) rfl (.int .i32 1);have z:=U4 D (p:=⟨b,9,none⟩) rfl (.int .i64 e);have I:=Sb (U4 z (p:=⟨b,10,none⟩) rfl (.int .i64 n));have y:=U4 I (p:=⟨b,6,none⟩) rfl (.int .u32 1);exact U4 y (p:=⟨b,7,none⟩) rfl (.int .i32 0)
def Met(w:World)(b:Nat)(r:Int)(s:MSt):Ending->World->Prop:=λ e w'=>e=.returned (.int .i64 r)/\MeterAt w' b s/\w.grownBy w' (some b)
theorem R6(b:Nat)(s:MSt)(e n:Int)(w:World)(h:MeterAt w b s)(he:e≠0) :
  Calls Tryz.prog 150 #[.pointer (some ⟨b,0,none⟩),.int .i64 e,.int .i64 n] w (Met w b e (s.refuse e n)):=by
 have hmf:∀(fn:Fn) (first cap:Array Value) (w:World),(Instr.makeFunc fn first cap).run Tryz.prog w=.ok (.func fn first cap) w:=λ _ _ _ _=>rfl;have hb:=Zj h.c0;have y:=((h.alloc (.cells #[.pointer (some ⟨b,0,none⟩)] 38)).alloc (.cells #[.int .i64 e] 31)).alloc (.cells #[.int .i64 n] 3);have J:w.grownBy (((w.alloc (.cells #[.pointer (some ⟨b,0,none⟩)] 38)).alloc (.cells #[.int .i64 e] 31)).alloc (.cells #[.int .i64 n] 3)) (some b):=Pz (Pz (Pz (WY w _) _) _) _;have I:=y.c6;have p0:(((w.alloc (.cells #[.pointer (some ⟨b,0,none⟩)] 38)).alloc (.cells #[.int .i64 e] 31)).alloc (.cells #[.int .i64 n] 3)).cell? ⟨w.heap.size,0,none⟩=some (.pointer (some ⟨b,0,none⟩)):=Z1 _ (Z1 _ (ZJ w _ _ rfl rfl));have U:(((w.alloc (.cells #[.pointer (some ⟨b,0,none⟩)] 38)).alloc (.cells #[.int .i64 e] 31)).alloc (.cells #[.int .i64 n] 3)).cell? ⟨w.heap.size+1,0,none⟩=some (.int .i64 e):=Z1 _ (ZJ _ _ _ (by simp) rfl);have p2:(((w.alloc (.cells #[.pointer (some ⟨b,0,none⟩)] 38)).alloc (.cells #[.int .i64 e] 31)).alloc (.cells #[.int .i64 n] 3)).cell? ⟨w.heap.size+2,0,none⟩=some (.int .i64 n):=ZJ _ _ _ (by simp) rfl
 by_cases K:s.wh=0
 ·have D:s.done=0:=by simp[MSt.done,K]
  rw[D]at I;have hf:=Jm y K e n he;have X:=YV J (Kh (((w.alloc (.cells #[.pointer (some ⟨b,0,none⟩)] 38)).alloc (.cells #[.int .i64 e] 31)).alloc (.cells #[.int .i64 n] 3)) b e n)
  have ev:(VP (((w.alloc (.cells #[.pointer (some ⟨b,0,none⟩)] 38)).alloc (.cells #[.int .i64 e] 31)).alloc (.cells #[.int .i64 n] 3)) b e n).cell? ⟨w.heap.size+1,0,none⟩=some (.int .i64 e):=by
   unfold VP;refine ZZ (ZZ ?_ (ab (by omega))) (ab (by omega));rw[World.cell?_drew];exact ZZ (ZZ (ZZ U (ab (by omega))) (ab (by omega))) (ab (by omega))
  have z:=Z_ y;have H:=Z_ h;have HF:=Z_ hf;have O:=Z_ X;clear y h hf X J D
  go_enter Tryz.func150,Tryz.ntmps150
  go_wp2_with (go_at_call 164;refine(Fx b ⟨w.heap.size+1,0,none⟩ ⟨w.heap.size+2,0,none⟩ ⟨w.heap.size,0,none⟩ e n _ _ _ (by simp;omega) (by simp;omega) (by simp;omega) U p2 p0 I z.o.c7 z.o.c9 z.o.c10 z.o.fz).mono ?_;rintro e w' ⟨rfl,rfl⟩);go_ret;exact⟨rfl,HF.o,O.o⟩
 ·have D:s.done=1:=by simp[MSt.done,K]
  have Z:s.refuse e n=s:=by simp[MSt.refuse,K]
  rw[D]at I;have z:=Z_ y;have HR:=Z_ Z;have O:=Z_ J;clear y h J D Z
  go_enter Tryz.func150,Tryz.ntmps150
  go_wp2_with (go_at_call 164;refine(E3 _ _ _ I).mono ?_;rintro e w' ⟨rfl,rfl⟩);go_ret;rw[HR.o];exact⟨rfl,z.o,O.o⟩
end
section
open Go.RowKit
def z56(zs:List Nat):Nat->Nat
 |0=>0
 |k+1=>if zs.getD k 0=0 then z56 zs k else k+1
theorem Ax(zs:List Nat)(k:Nat):z56 zs k<=k:=by
 induction k with
 |zero=>simp[z56]
 |succ k ih=>simp only[z56];split<;>omega
def z22(ts:List RTerm):Nat->Nat
 |0=>0
 |k+1=>max (z22 ts k) (z56 (ts.getD k default).c.mag (ts.getD k default).c.mag.length)
theorem BD{S:Nat->Prop}{w:World}{v:Value}{ts:List RTerm}(h:z06 S w v ts)(k:Nat)(hk:k<=ts.length):z22 ts k<=9223372036854775807:=by
 induction k with
 |zero=>simp[z22]
 |succ k y=>
  have y:=y (by omega);obtain⟨b,off,hs,D⟩:=h;obtain⟨t,z⟩:=ZN (show k<ts.length by omega);obtain⟨vm,vo,h1,h2,h3,I,h5⟩:=D k t z;have h6:=I.len_le;have h7:=Ax t.c.mag t.c.mag.length;simp only[z22,List.getD,z,yA];omega
theorem IY{S:Nat->Prop}(bn:Nat)(v:Value)(zs:List Nat)(n:Nat)(w:World)(h:U32s S w v zs)
  (hn:w.cell? ⟨bn,0,none⟩=some (.int .i64 n)) (hf:w.frozen? ⟨bn,0,none⟩=false) :
  Calls Tryz.prog 163 #[v,.pointer (some ⟨bn,0,none⟩)] w λ e w'=>e=.returned (.tuple #[])/\w.setCell ⟨bn,0,none⟩ (.int .i64 (max n (z56 zs zs.length):Nat))=w':=by
 have hl:=h.len_le;obtain⟨b,off,⟨a,cap,rfl,hcap,hmax,I,_⟩,O⟩:=h
 go_enter Tryz.func163,Tryz.ntmps163
 go_wp2
 go_loop [3] (λ i=>∃k:Nat,k<=zs.length/\i=.int .i64 k/\z56 zs k=z56 zs zs.length) (λ i=>(intOf i).toNat)
 case atStart=>exact⟨zs.length,zR _,rfl,rfl⟩
 case round=>
  obtain⟨k,hk,rfl,D⟩:=hrel
  cases k with
  |zero=>
   have H:=Z_ D;clear D O I;go_wp2
   all_goals
    go_end0
    refine⟨rfl,?_⟩;rw[<-H.o];simp[z56]
  |succ k=>
   obtain rfl:=I (by omega);obtain⟨z,K⟩:=ZN (show k<zs.length by omega);obtain⟨hzb,hcell⟩:=O k z K;have H:=Z_ D;have U:=Z_ K;clear D O I K
   by_cases y:z=0
   ·have hb:((z:Int) == 0)=true:=by simpa using y
    have J:=Z_ y;clear y;go_wp2
    go_round
    case rel=>exact⟨k,by omega,rfl,by rw[<-H.o];simp[z56,U.o,J.o]⟩
    case measure=>simp only[intOf];omega
   ·have hb:((z:Int) == 0)=false:=by simpa using y
    have J:=Z_ y;clear y;go_wp2
    all_goals
     go_end0
     refine⟨rfl,?_⟩;rw[<-H.o];simp only[z56,List.getD,U.o,yA];rw[if_neg J.o]
     congr 2
     omega
theorem Qm{S:Nat->Prop}(v:Value)(ts:List RTerm)(w:World)(h:z06 S w v ts)(hS:∀k,S k->k<w.heap.size) :
  Calls Tryz.prog 149 #[v] w λ e w'=>e=.returned (.int .i64 (z22 ts ts.length:Nat))/\Ext w w':=by
 have hmf:∀(fn:Fn) (first cap:Array Value) (w:World),(Instr.makeFunc fn first cap).run Tryz.prog w=.ok (.func fn first cap) w:=λ _ _ _ _=>rfl;have hl:=h.len_le;have HT:=Z_ h;obtain⟨b,off,⟨a,cap,rfl,hcap,hmax,ha,hin⟩,hc⟩:=h;have HC:=Z_ hc;clear hc
 go_enter Tryz.func149,Tryz.ntmps149
 go_wp2
 go_loopw [9] (λ i wr=>∃k:Nat,k<=ts.length/\i=.int .i64 k/\wr.cell? ⟨w.heap.size,0,none⟩=some (.int .i64 (z22 ts k:Nat))/\wr.frozen? ⟨w.heap.size,0,none⟩=false/\Ext w wr) (λ i _=>ts.length-(intOf i).toNat)
 case atStart=>exact⟨0,zL _,rfl,by simp[z22],by simp,uO (uP _) _⟩
 case round=>
  obtain⟨k,z,rfl,D,hf,y⟩:=hrel;have O:=Z_ y
  by_cases K:k<ts.length
  ·obtain⟨t,I⟩:=ZN K;obtain⟨vm,vo,h1,U,Z,J,X⟩:=HC.o k t I;have HK:=Z_ I;obtain rfl:=ha (by omega);have g1:=uz y h1;have g2:=uz y U;have g3:=uz y Z;have H4:=Z_ (J.to (Kept.of_below y |>.mono hS) (λ k z=>z));obtain⟨am,cm,rfl⟩:=J.form;obtain⟨ao,co,rfl⟩:=X.form;clear h1 U Z J X y I;go_wp2_with fail
   refine(IY (S:=S) w.heap.size _ t.c.mag (z22 ts k) _ ?_ (Z1 _ D) (NW _ (Zj D) hf)).mono ?_
   ·exact H4.o.to (uw (λ k z=>zU (hS k z) O.o.size) _) (λ k z=>z)
   rintro e w' ⟨rfl,rfl⟩;have hb:=Zj D;go_wp2
   go_roundw
   case rel=>
    refine⟨k+1,by omega,by go_num,?_,NW _ (by rw[z03];exact hb) (Zg hf),(O.o.setCell (p:=⟨w.heap.size,0,none⟩) (zR _) _).alloc (by rw[z03];omega) _⟩;have e:z22 ts (k+1)=max (z22 ts k) (z56 t.c.mag t.c.mag.length):=by simp[z22,List.getD,HK.o]
    rw[e];exact Z1 _ (YT D)
   case measure=>simp only[intOf];omega
  ·obtain rfl:k=ts.length:=by omega
   go_wp2;refine bodyPost_ret (v:=.int .i64 (z22 ts ts.length:Nat)) (by simp[results,Tryz.results149,go_sem,YT D]) rfl ⟨rfl,O.o.setCell (p:=⟨w.heap.size,0,none⟩) (zR _) _⟩
end
section
open Go.RowKit
theorem Er(b o:Nat)(n most e:Int)(w:World)(hn:w.cell? ⟨b,o,none⟩=some (.int .i64 n))(hf:w.frozen? ⟨b,o,none⟩=false)(h0:0<=n)(h1:n<=1000000000)(hlt:n<most) :
  Calls Tryz.prog 179 #[.pointer (some ⟨b,0,none⟩),.pointer (some ⟨b,o,none⟩),.int .i64 most,.int .i64 e] w λ r w'=>r=.returned (.int .i64 0)/\w.setCell ⟨b,o,none⟩ (.int .i64 (n+1))=w':=by
 go_enter Tryz.func179,Tryz.ntmps179
 go_wp2_with (first|(go_at_call 186;refine(LR _ n _ hn).mono ?_;rintro e w' ⟨rfl,rfl⟩)|(go_at_call 187;refine(Ea _ n _ hn hf h0 h1).mono ?_;rintro e w' ⟨rfl,rfl⟩));go_ret;exact⟨rfl,rfl⟩
theorem F2(b o:Nat)(s:MSt)(n most e:Int)(w:World)(h:MeterAt w b s)(hn:w.cell? ⟨b,o,none⟩=some (.int .i64 n))(he:e≠0)(hlt:most<=n)(hm:-1<=most)(hm':most<=1000000000) :
  Calls Tryz.prog 179 #[.pointer (some ⟨b,0,none⟩),.pointer (some ⟨b,o,none⟩),.int .i64 most,.int .i64 e] w (Met w b e (s.refuse e (most+1))):=by
 have H:=Z_ h;have z:=Z_ he;clear h he
 go_enter Tryz.func179,Tryz.ntmps179
 go_wp2_with (first|(go_at_call 186;refine(LR _ n _ hn).mono ?_;rintro e w' ⟨rfl,rfl⟩)|(go_at_call 150;refine(R6 b s e (most+1) _ H.o z.o).mono ?_;rintro e w' ⟨rfl,D⟩));go_ret;exact⟨rfl,D⟩
def MSt.step(s:MSt):Int×MSt:=if s.st<s.fu then(0,{ s with st:=s.st+1 }) else(9,s.refuse 9 (s.fu+1))
structure MSt.Ok (s:MSt):Prop where
 f0:0<=s.fu
 f1:s.fu<=1000000
 l0:0<=s.li
 l1:s.li<=10000
 t0:0<=s.te
 t1:s.te<=100000
 p0:0<=s.pi
 p1:s.pi<=1000
 s0:0<=s.st
 s1:s.st<=s.fu
 c0:0<=s.pc
 c1:s.pc<=s.pi
theorem MeterAt.drew{w:World}{b:Nat}{s:MSt}(h:MeterAt w b s):MeterAt w.drew b s:=h.grown (r:=none) (Sb (WY w none)) (by simp)
theorem MeterAt.setSt{w:World}{b:Nat}{s:MSt}(h:MeterAt w b s)(n:Int):MeterAt (w.setCell ⟨b,4,none⟩ (.int .i64 n)) b { s with st:=n } :=
 ⟨ZZ h.c0 (ao (by omega)),ZZ h.c1 (ao (by omega)),ZZ h.c2 (ao (by omega)),ZZ h.c3 (ao (by omega)),YT h.c4,ZZ h.c5 (ao (by omega)),ZZ h.c6 (ao (by omega)),ZZ h.c7 (ao (by omega)),ZZ h.c8 (ao (by omega)),ZZ h.c9 (ao (by omega)),ZZ h.c10 (ao (by omega)),λ i=>Zg (h.fz i)⟩
theorem Met.of_drew{w:World}{b:Nat}{r:Int}{s:MSt}{e:Ending}{w':World}(h:Met w.drew b r s e w'):Met w b r s e w' :=
 ⟨h.1,h.2.1,YV (Sb (WY w _)) h.2.2⟩
theorem Cn(b:Nat)(s:MSt)(w:World)(h:MeterAt w b s)(ok:s.Ok) :
  Calls Tryz.prog 172 #[.pointer (some ⟨b,0,none⟩)] w (Met w b s.step.1 s.step.2):=by
 have hfu:=h.c0;have z:w.drew.cell? ⟨b,4,none⟩=some (.int .i64 s.st):=by rw[World.cell?_drew];exact h.c4
 have J:w.drew.frozen? ⟨b,4,none⟩=false:=by rw[World.frozen?_drew];exact h.fz 4
 have b1:=ok.f0;have b2:=ok.f1;have I:=ok.s0;have b4:=ok.s1;have H:=Z_ h.drew;clear h ok
 by_cases y:s.st<s.fu
 ·have D:s.step=(0,{ s with st:=s.st+1 }):=by simp[MSt.step,y]
  rw[D];clear D
  go_enter Tryz.func172,Tryz.ntmps172
  go_wp2
  go_still_tail 9,(by kernel_rfl)
  change wpList _ _ _ _ _ w.drew;go_wp2_with (go_at_call 179;refine(Er b 4 s.st s.fu 9 w.drew z J I (by omega) y).mono ?_;rintro e w' ⟨rfl,rfl⟩);go_ret;exact Met.of_drew ⟨rfl,H.o.setSt _,U4 (WY _ _) rfl _⟩
 ·have D:s.step=(9,s.refuse 9 (s.fu+1)):=by simp[MSt.step,y]
  rw[D];clear D
  go_enter Tryz.func172,Tryz.ntmps172
  go_wp2
  go_still_tail 9,(by kernel_rfl)
  change wpList _ _ _ _ _ w.drew;go_wp2_with (go_at_call 179;refine(F2 b 4 s s.st s.fu 9 w.drew H.o z (by decide) (by omega) (by omega) (by omega)).mono ?_;rintro e w' ⟨rfl,K⟩);go_ret;exact Met.of_drew ⟨rfl,K⟩
def MSt.refused(s:MSt)(e:Int):MSt:=if e=8 then s.refuse 8 0 else s
theorem Kn(b:Nat)(s:MSt)(e:Int)(w:World)(h:MeterAt w b s) :
  Calls Tryz.prog 144 #[.pointer (some ⟨b,0,none⟩),.int .i64 e] w (Met w b e (s.refused e)):=by
 have H:=Z_ h;clear h
 by_cases z:e=8
 ·subst z;have y:s.refused 8=s.refuse 8 0:=by simp[MSt.refused]
  rw[y];clear y
  go_enter Tryz.func144,Tryz.ntmps144
  go_wp2_with (go_at_call 150;refine(R6 b s 8 0 _ H.o (by decide)).mono ?_;rintro e w' ⟨rfl,D⟩);go_ret;exact⟨rfl,D⟩
 ·have y:s.refused e=s:=by simp[MSt.refused,z]
  have hb:(e == 8)=false:=by simpa using z
  rw[y];clear y z
  go_enter Tryz.func144,Tryz.ntmps144
  go_wp2;go_ret;exact⟨rfl,H.o,WY _ _⟩
end
section
open Go.RowKit
theorem Y7{w w':World}(h:Ext w w')(r:Option Nat):w.grownBy w' r:=⟨h.os,h.tape,h.output,h.size,λ k hk _=>h.block k hk⟩
def MSt.keep(s:MSt)(n len:Nat):Int×MSt:=if s.li<n then(10,s.refuse 10 n) else if s.te<len then(11,s.refuse 11 len) else(0,s)
theorem JP{S:Nat->Prop}(b:Nat)(s:MSt)(v:Value)(ts:List RTerm)(w:World)(h:MeterAt w b s)(ht:z06 S w v ts)(hS:∀k,S k->k<w.heap.size) :
  Calls Tryz.prog 125 #[.pointer (some ⟨b,0,none⟩),v] w (Met w b (s.keep (z22 ts ts.length) ts.length).1 (s.keep (z22 ts ts.length) ts.length).2):=by
 have hb:=Zj h.c0;have X:=BD ht ts.length (zR _);have hlen:=ht.len_le;obtain⟨a,cap,rfl⟩:=ht.form;have U:=Z_ ht;generalize hn:z22 ts ts.length=n at X;have J:=Z_ hn;have H:=Z_ h;clear ht h hn
 by_cases K:s.li<n
 ·have D:s.keep n ts.length=(10,s.refuse 10 n):=by simp[MSt.keep,K]
  rw[D];clear D
  go_enter Tryz.func125,Tryz.ntmps125
  go_wp2_with fail;refine(Qm _ ts _ U.o hS).mono ?_;rintro e w' ⟨rfl,y⟩;rw[J.o];have q1:=(H.o.kept y hb).c1;have z:=Z_ y;clear y;go_wp2_with (go_at_call 150;refine(R6 b s 10 n _ (H.o.kept z.o hb) (by decide)).mono ?_;rintro e O ⟨rfl,I⟩);go_ret;exact⟨rfl,I.1,YV (Y7 z.o _) I.2⟩
 by_cases Z:s.te<ts.length
 ·have D:s.keep n ts.length=(11,s.refuse 11 ts.length):=by simp[MSt.keep,K,Z]
  rw[D];clear D
  go_enter Tryz.func125,Tryz.ntmps125
  go_wp2_with fail;refine(Qm _ ts _ U.o hS).mono ?_;rintro e w' ⟨rfl,y⟩;rw[J.o];have q1:=(H.o.kept y hb).c1;have q2:=(H.o.kept y hb).c2;have z:=Z_ y;clear y;go_wp2_with (go_at_call 150;refine(R6 b s 11 ts.length _ (H.o.kept z.o hb) (by decide)).mono ?_;rintro e O ⟨rfl,I⟩);go_ret;exact⟨rfl,I.1,YV (Y7 z.o _) I.2⟩
 ·have D:s.keep n ts.length=(0,s):=by simp[MSt.keep,K,Z]
  rw[D];clear D
  go_enter Tryz.func125,Tryz.ntmps125
  go_wp2_with fail;refine(Qm _ ts _ U.o hS).mono ?_;rintro e w' ⟨rfl,y⟩;rw[J.o];have q1:=(H.o.kept y hb).c1;have q2:=(H.o.kept y hb).c2;have z:=Z_ y;clear y;go_wp2_with fail;go_ret;exact⟨rfl,H.o.kept z.o hb,Y7 z.o _⟩
def MSt.new(a b c d:Int):MSt:=⟨a,b,c,d,0,0,0,0⟩
def TG(a b c d:Int):Prop:=(0<=a/\a<=1000000)/\(0<=b/\b<=10000)/\(0<=c/\c<=100000)/\0<=d/\d<=1000
def Nv(a b c d:Int)(w:World):Ending->World->Prop:=λ e w'=>
 Ext w w'/\((TG a b c d/\∃k,w.heap.size<=k/\MeterAt w' k (MSt.new a b c d)/\e=.returned (.tuple #[.pointer (some ⟨k,0,none⟩),.int .i64 0])) ∨
  (¬ TG a b c d/\e=.returned (.tuple #[.pointer none,.int .i64 2])))
def QX(a b c d:Int)(k:Nat):Prop:=(0<k->0<=a/\a<=1000000)/\(1<k->0<=b/\b<=10000)/\(2<k->0<=c/\c<=100000)/\(3<k->0<=d/\d<=1000)
theorem VD{a b c d:Int}{w w':World}{e:Ending}(h:¬ TG a b c d)(hx:Ext w w')(he:e=.returned (.tuple #[.pointer none,.int .i64 2])):Nv a b c d w e w':=⟨hx,.inr ⟨h,he⟩⟩
theorem GI(a b c d:Int)(w:World) :
  Calls Tryz.prog 7 #[.agg #[.int .i64 a,.int .i64 b,.int .i64 c,.int .i64 d]] w (Nv a b c d w):=by
 have i0:∀w,(Instr.index 68 (.agg #[.int .i64 a,.int .i64 1000000,.int .i64 b,.int .i64 10000,.int .i64 c,.int .i64 100000,.int .i64 d,.int .i64 1000]) (.int .i64 0)).run Tryz.prog w=.ok (.agg #[.int .i64 a,.int .i64 1000000]) w:=λ _=>by kernel_rfl
 have i1:∀w,(Instr.index 68 (.agg #[.int .i64 a,.int .i64 1000000,.int .i64 b,.int .i64 10000,.int .i64 c,.int .i64 100000,.int .i64 d,.int .i64 1000]) (.int .i64 1)).run Tryz.prog w=.ok (.agg #[.int .i64 b,.int .i64 10000]) w:=λ _=>by kernel_rfl
 have i2:∀w,(Instr.index 68 (.agg #[.int .i64 a,.int .i64 1000000,.int .i64 b,.int .i64 10000,.int .i64 c,.int .i64 100000,.int .i64 d,.int .i64 1000]) (.int .i64 2)).run Tryz.prog w=.ok (.agg #[.int .i64 c,.int .i64 100000]) w:=λ _=>by kernel_rfl
 have i3:∀w,(Instr.index 68 (.agg #[.int .i64 a,.int .i64 1000000,.int .i64 b,.int .i64 10000,.int .i64 c,.int .i64 100000,.int .i64 d,.int .i64 1000]) (.int .i64 3)).run Tryz.prog w=.ok (.agg #[.int .i64 d,.int .i64 1000]) w:=λ _=>by kernel_rfl
 have y:Hd (Ext w (w.alloc (.cells #[.int .i64 a,.int .i64 b,.int .i64 c,.int .i64 d] 42))):=Z_ (uO (uP _) _)
 go_enter Tryz.func7,Tryz.ntmps7
 go_wp2
 go_loopw [19] (λ i wr=>∃k:Nat,k<=4/\i=.int .i64 k/\QX a b c d k/\Ext (w.alloc (.cells #[.int .i64 a,.int .i64 b,.int .i64 c,.int .i64 d] 42)) wr) (λ i _=>4-(intOf i).toNat)
 case atStart=>exact⟨0,by omega,rfl,⟨by omega,by omega,by omega,by omega⟩,uP _⟩
 case round=>
  obtain⟨k,hk,rfl,J,I⟩:=hrel;have D:=Z_ J;have z:=Z_ I;have e0:=uz I (ZJ w #[.int .i64 a,.int .i64 b,.int .i64 c,.int .i64 d] 42 rfl (i:=0) rfl);have e1:=uz I (ZJ w #[.int .i64 a,.int .i64 b,.int .i64 c,.int .i64 d] 42 rfl (i:=1) rfl);have e2:=uz I (ZJ w #[.int .i64 a,.int .i64 b,.int .i64 c,.int .i64 d] 42 rfl (i:=2) rfl);have e3:=uz I (ZJ w #[.int .i64 a,.int .i64 b,.int .i64 c,.int .i64 d] 42 rfl (i:=3) rfl);clear J I
  obtain rfl|rfl|rfl|rfl|rfl:k=0∨k=1∨k=2∨k=3∨k=4:=by omega
  ·by_cases O:a<0
   ·go_wp2;go_ret2;exact VD (λ h=>by have:=h.1;omega) (y.o.trans (uO z.o _)) rfl
   by_cases K:a<=1000000
   ·go_wp2
    go_roundw
    case rel=>exact⟨1,by omega,rfl,⟨by omega,by omega,by omega,by omega⟩,uO z.o _⟩
    case measure=>simp[intOf]
   ·go_wp2;go_ret2;exact VD (λ h=>by have:=h.1;omega) (y.o.trans (uO z.o _)) rfl
  ·by_cases O:b<0
   ·go_wp2;go_ret2;exact VD (λ h=>by have:=h.2.1;omega) (y.o.trans (uO z.o _)) rfl
   by_cases K:b<=10000
   ·go_wp2
    go_roundw
    case rel=>exact⟨2,by omega,rfl,⟨λ _=>D.o.1 (by omega),by omega,by omega,by omega⟩,uO z.o _⟩
    case measure=>simp[intOf]
   ·go_wp2;go_ret2;exact VD (λ h=>by have:=h.2.1;omega) (y.o.trans (uO z.o _)) rfl
  ·by_cases O:c<0
   ·go_wp2;go_ret2;exact VD (λ h=>by have:=h.2.2.1;omega) (y.o.trans (uO z.o _)) rfl
   by_cases K:c<=100000
   ·go_wp2
    go_roundw
    case rel=>exact⟨3,by omega,rfl,⟨λ _=>D.o.1 (by omega),λ _=>D.o.2.1 (by omega),by omega,by omega⟩,uO z.o _⟩
    case measure=>simp[intOf]
   ·go_wp2;go_ret2;exact VD (λ h=>by have:=h.2.2.1;omega) (y.o.trans (uO z.o _)) rfl
  ·by_cases O:d<0
   ·go_wp2;go_ret2;exact VD (λ h=>by have:=h.2.2.2;omega) (y.o.trans (uO z.o _)) rfl
   by_cases K:d<=1000
   ·go_wp2
    go_roundw
    case rel=>exact⟨4,by omega,rfl,⟨λ _=>D.o.1 (by omega),λ _=>D.o.2.1 (by omega),λ _=>D.o.2.2.1 (by omega),by omega⟩,uO z.o _⟩
    case measure=>simp[intOf]
   ·go_wp2;go_ret2;exact VD (λ h=>by have:=h.2.2.2;omega) (y.o.trans (uO z.o _)) rfl
  ·go_wp2;go_ret2;refine⟨y.o.trans (uO z.o _),.inl ⟨⟨D.o.1 (by omega),D.o.2.1 (by omega),D.o.2.2.1 (by omega),D.o.2.2.2 (by omega)⟩,_,zT y.o.size z.o.size,?_,rfl⟩⟩;exact⟨ZJ _ _ _ rfl rfl,ZJ _ _ _ rfl rfl,ZJ _ _ _ rfl rfl,ZJ _ _ _ rfl rfl,ZJ _ _ _ rfl rfl,ZJ _ _ _ rfl rfl,ZJ _ _ _ rfl rfl,ZJ _ _ _ rfl rfl,ZJ _ _ _ rfl rfl,ZJ _ _ _ rfl rfl,ZJ _ _ _ rfl rfl,λ i=>Vt _ _ _⟩
end
section
open Go.RowKit
end
section
open Go.RowKit
theorem E9(w:World):Calls Tryz.prog 172 #[.pointer none] w λ e w'=>e=.returned (.int .i64 0)/\w=w':=by
 go_enter Tryz.func172,Tryz.ntmps172
 go_wp2;go_ret;exact⟨rfl,rfl⟩
theorem Gf(v:Value)(w:World):Calls Tryz.prog 125 #[.pointer none,v] w λ e w'=>e=.returned (.int .i64 0)/\w=w':=by
 go_enter Tryz.func125,Tryz.ntmps125
 go_wp2;go_ret;exact⟨rfl,rfl⟩
theorem Cs(e:Int)(w:World):Calls Tryz.prog 144 #[.pointer none,.int .i64 e] w λ r w'=>r=.returned (.int .i64 e)/\w=w':=by
 go_enter Tryz.func144,Tryz.ntmps144
 go_wp2;go_ret;exact⟨rfl,rfl⟩
end
section
open Go.RowKit
theorem BC{p:PZ}{c:Int}{m:Z7}(hp:ZD p)(hm:Z3 m=true):ZD (putP p c m):=λ t ht=>by
 rcases O7 ht with h|h
 ·exact hp t h
 ·rw[h];exact hm
theorem Fs{p l:PZ}(hp:ZD p)(hl:ZD l):ZD (addP p l):=by
 induction l generalizing p with
 |nil=>exact hp
 |cons t r ih=>exact ih (BC hp (hl t (by simp))) (λ u hu=>hl u (by simp[hu]))
theorem Nu(p l:PZ)(t:Int×Z7):addP p (l ++ [t])=putP (addP p l) t.1 t.2:=by
 unfold addP;rw[xp];rfl
theorem F6{l:PZ}(h:ZD l)(k:Nat):ZD (l.take k):=λ t ht=>h t (yU ht)
theorem Rz{S:Nat->Prop}{w w1 w2:World}(h1:Ext w w1)(h2:Ext w1 w2):∀k,ZG (ZG S w w1) w1 w2 k->ZG S w w2 k:=λ k hk=>by
 rcases hk with (h|h)|h
 ·exact .inl h
 ·exact .inr ⟨h.1,zU h.2 h2.size⟩
 ·exact .inr ⟨zT h1.size h.1,h.2⟩
theorem NP{S:Nat->Prop}{w w1 w2:World}(h1:w.heap.size<=w1.heap.size):∀k,New w1 w2 k->ZG S w w2 k:=λ _k hk=>.inr ⟨zT h1 hk.1,hk.2⟩
theorem RTs.later{S:Nat->Prop}{w w1 w2:World}{v:Value}{p:PZ}(hS:∀k,S k->k<w.heap.size)(h:RTs (ZG S w w1) w1 v p)(h1:Ext w w1)(h2:Ext w1 w2):RTs (ZG S w w2) w2 v p :=
 h.to (uM h2 (X_ hS h1)) (Ue h2.size)
theorem z5k(ts:List RTerm):(toP ts).length=ts.length:=by unfold toP;rw[zE]
theorem PF{S:Nat->Prop}(vp vq:Value)(p q:PZ)(w:World)(hS:∀k,S k->k<w.heap.size)(hp:RTs S w vp p)(hq:RTs S w vq q)(hmp:ZD p)(hmq:ZD q)(hszq:XN q)(hsz:∀k,k<=q.length->XN (addP p (q.take k))) :
  Calls Tryz.prog 13 #[vp,vq] w λ e w'=>∃v',e=.returned v'/\RTs (ZG S w w') w' v' (addP p q)/\Ext w w':=by
 have hl:=hq.len_le;have HP:=Z_ hp;have HQ:=Z_ hq;have af:=Z_ hmp;have O:=Z_ hmq;have aa:=Z_ hszq;have ai:=Z_ hsz;obtain⟨ap,cp,rfl⟩:=hp.form;obtain⟨aq,cq,rfl⟩:=hq.form;clear hp hq hmp hmq hszq hsz
 go_enter Tryz.func13,Tryz.ntmps13
 go_wp2
 go_loopw [5,6] (λ o i wr=>∃k:Nat,k<=q.length/\i=.int .i64 k/\Ext w wr/\Hd (RTs (ZG S w wr) wr o (addP p (q.take k)))) (λ _ i _=>q.length-(intOf i).toNat)
 case atStart=>exact⟨0,zL _,rfl,uP _,Z_ (HP.o.to (uN _ _) (λ _ h=>.inl h))⟩
 case round=>
  obtain⟨k,hk,rfl,Z,HO⟩:=hrel;have HX:=Z_ Z
  by_cases ad:k<q.length
  ·obtain⟨t,U⟩:=ZN ad;obtain⟨b,off,vd,vo,rfl,-,hn1,hm1,hSb,h1,h2,h3,h4,h5⟩:=HQ.o.cellAt U;have ac:Hd (q.take (k+1)=q.take k ++ [t]):=Z_ (by rw[zv,U];rfl);have ah:=Z_ (O.o t (zP U));have HV:=Z_ (aa.o.2 t (zP U));have H4:=Z_ h4;have H5:=Z_ h5;obtain⟨am,cm,rfl⟩:=h4.form;obtain⟨ao,co,rfl⟩:=h5.form;have x0:Ext w wr.drew:=Z.drew;have z:=Z_ x0;have X:_/\_/\_:=zS (x0.cell h1) (zS (x0.cell h2) (x0.cell h3));have c2:=RE (S:=ZG S w wr.drew) _ _ _ (addP p (q.take k)) t.1 t.2 wr.drew (X_ hS x0) (RTs.later hS HO.o HX.o ((uP wr).drew)) (show ZV (ZG S w wr.drew) wr.drew (.agg #[.bool (decide (t.1<0)),.slice am (Z4 10 t.1.natAbs).length cm]) t.1 from⟨_,rfl,H4.o.to (uM z.o hS) (λ _ h=>.inl h)⟩) (H5.o.to (uM z.o hS) (λ _ h=>.inl h)) (Fs af.o (F6 O.o k)) ah.o (ai.o k hk) HV.o;obtain⟨bt,D⟩:∃b,b=decide (t.1<0):=⟨_,rfl⟩
   obtain⟨nt,J⟩:∃n,n=(Z4 10 t.1.natAbs).length:=⟨_,rfl⟩
   obtain⟨nm,I⟩:∃n,n=t.2.length:=⟨_,rfl⟩
   rw[<-D,<-J,<-I]at X;rw[<-D,<-J,<-I]at c2;have C2:=Z_ c2;clear U h1 h2 h3 h4 h5 Z x0 c2 H4 H5 D J I;go_wp2
   go_region_held3 (λ W=>W.cell? ⟨b,off+k*3,none⟩=some (.bool bt)/\W.cell? ⟨b,off+k*3+1,none⟩=some (.slice am nt cm)/\W.cell? ⟨b,off+k*3+2,none⟩=some (.slice ao nm co)) (first|exact X|exact S2)
    (first
     |(go_at_call 26;(with_reducible refine C2.o.mono ?_);rintro e w2 ⟨v2,rfl,K,y⟩;have S2:_/\_/\_:=zS (y.cell X.1) (zS (y.cell X.2.1) (y.cell X.2.2));have ag:=Z_ (z.o.trans y);have ae:=Z_ (K.to (uN _ _) (Rz z.o y));clear y K))
   go_wp2
   go_roundw
   case rel=>exact⟨k+1,by omega,by go_num,ag.o,Z_ (by rw[ac.o,Nu];exact ae.o)⟩
   case measure=>simp only[intOf];omega
  ·obtain rfl:k=q.length:=by omega
   have HE:Hd (addP p (q.take q.length)=addP p q):=Z_ (by rw[yW]);clear Z;go_wp2
   all_goals
    go_ret;exact⟨_,rfl,by rw[<-HE.o];exact HO.o,HX.o⟩
end
section
open Go.RowKit
section
variable {P:Program}
theorem XE{w:World}{ops:Array Oper}{o:Oper}{a:Act}{K:Act->World->Prop}{Q:Exit->Act->World->Prop}{E:Prop}(hgd:o.guard=none)(s x:Operand)(t:TypeId)
  (ho:o.op=.call { callee:=.builtin .append,args:=#[s,x],argTypes:=#[t,t] })
  (base:Nat) (e:TypeId) (i:TypeInfo) (z:Value) (size bytes:Nat) (ht:P.underlying t=some (.slice e)) (hi:P.info? e=some i) (hz:i.zero=some z)
  (hsize:i.size=size) (hby:i.bytes=bytes) (hzs:z.cells.size=size) (hsz:0<size)
  (v:Value) (n:Nat) (xs:List Value) (hs:a.eval s=v) (hown:w.ownsRow base e size v n xs)
  (A:Option Addr) (m c:Nat) (news:List Value) (hx:a.eval x=.slice A m c) (hsrc:Wq w A m size news)
  (h63:n+m<=maxLen) (hbytes:(n+m)*bytes<=140737488355328) (hbase:base<=w.heap.size)
  (h:∀v' w',w'.ownsRow base e size v' (n+m) (xs++news)->w.grownBy w' v.ownBlock->(v'.ownBlock=v.ownBlock∨v'.ownBlock=some w.heap.size)->K (a.put o.dst v') w') :
  if Region.wanted o (yielded ops a.tmps)=true then Oper.wp P o a w K Q else E:=by
 have I:Region.wanted o (yielded ops a.tmps)=true:=by simp[Region.wanted,hgd]
 rw[if_pos I];obtain⟨v',w',y,J,D,O⟩:=Lb (P:=P) w base t o.type e i z size bytes ht hi hz hsize hby hzs hsz v n xs hown A m c news hsrc h63 hbytes hbase;unfold Oper.wp execOp;simp only[ho,resolve,invoke,builtin,Sem.run_bind,Sem.run_pure,Result.andThen_ok,vA,ya,List.map_nil,hs,hx,y];exact h v' w' J D O
end
theorem z06.nilv(S:Nat->Prop)(w:World)(a:Option Addr)(cap:Nat)(h:cap<=9223372036854775807):z06 S w (.slice a 0 cap) [] :=
 ⟨0,0,⟨a,cap,rfl,zL _,h,λ h=>absurd h (yQ 0),λ h=>absurd h (yQ 0)⟩,λ j t hj=>by simp at hj⟩
def z0v(S:Nat->Prop)(w:World):List Value->List RTerm->Prop
 |xs,[]=>xs=[]
 |xs,t :: r=>∃vd vo ys,xs=.bool t.c.neg :: vd :: vo :: ys/\U32s S w vd t.c.mag/\Pows S w vo t.m/\z0v S w ys r
section
variable {S S':Nat->Prop} {w w':World}
theorem z0v.append{xs ys:List Value}{p q:List RTerm}(h:z0v S w xs p)(k:z0v S w ys q):z0v S w (xs++ys) (p++q):=by
 induction p generalizing xs with
 |nil=>
  have e:xs=[]:=h;subst e;exact k
 |cons t r ih=>
  obtain⟨vd,vo,zs,rfl,h1,h2,h3⟩:=h;exact⟨vd,vo,zs++ys,rfl,h1,h2,ih h3⟩
theorem z0v.to{xs:List Value}{p:List RTerm}(h:z0v S w xs p)(hk:Kept S w w')(hS:∀k,S k->S' k):z0v S' w' xs p:=by
 induction p generalizing xs with
 |nil=>exact h
 |cons t r ih=>
  obtain⟨vd,vo,zs,rfl,h1,h2,h3⟩:=h;exact⟨vd,vo,zs,rfl,h1.to hk hS,h2.to hk hS,ih h3⟩
theorem z0v.length{xs:List Value}{p:List RTerm}(h:z0v S w xs p):xs.length=p.length*3:=by
 induction p generalizing xs with
 |nil=>
  have e:xs=[]:=h;subst e;rfl
 |cons t r ih=>
  obtain⟨vd,vo,zs,rfl,h1,h2,h3⟩:=h;simp only[zM,ih h3];omega
theorem z0v.get{xs:List Value}{p:List RTerm}(h:z0v S w xs p){j:Nat}{t:RTerm}(ht:p[j]? = some t) :
  ∃vd vo,xs[j*3]? = some (.bool t.c.neg)/\xs[j*3+1]? = some vd/\xs[j*3+2]? = some vo/\U32s S w vd t.c.mag/\Pows S w vo t.m:=by
 induction p generalizing xs j with
 |nil=>simp at ht
 |cons u r ih=>
  obtain⟨vd,vo,zs,rfl,J,I,D⟩:=h
  cases j with
  |zero=>
   obtain rfl:u=t:=by simpa using ht
   exact⟨vd,vo,rfl,rfl,rfl,J,I⟩
  |succ j=>
   obtain⟨z,y,g⟩:=ih D (j:=j) (by simpa using ht);refine⟨z,y,?_⟩;rw[show(j+1)*3=j*3+1+1+1 by omega];simpa using g
theorem z0v.one{xs:List Value}{p:List RTerm}(h:z0v S w xs p):∀u∈xs,u.oneCell'=true:=by
 induction p generalizing xs with
 |nil=>
  have e:xs=[]:=h;subst e;intro u y;simp at y
 |cons t r ih=>
  obtain⟨vd,vo,zs,rfl,I,D,z⟩:=h;intro u y;simp only[zJ]at y
  rcases y with rfl|rfl|rfl|y
  ·rfl
  ·obtain⟨a,c,rfl⟩:=I.form;rfl
  ·obtain⟨a,c,rfl⟩:=D.form;rfl
  ·exact ih z u y
theorem z0v.single{vd vo:Value}{t:RTerm}(h1:U32s S w vd t.c.mag)(h2:Pows S w vo t.m):z0v S w [.bool t.c.neg,vd,vo] [t]:=⟨vd,vo,[],rfl,h1,h2,rfl⟩
end
theorem Vk{S:Nat->Prop}{w:World}{base:Nat}{e:TypeId}{v:Value}{xs:List Value}{p:List RTerm}(h:w.ownsRow base e 3 v p.length xs)(hc:z0v S w xs p)(hB:∀k,base<=k->k<w.heap.size->S k):z06 S w v p:=by
 have y:=h.lt
 rcases h.2 with ⟨rfl,Z⟩|⟨g,cap,cur,rfl,hg,hh,U,I,h3,h4⟩
 ·obtain rfl:p=[]:=zO.1 Z;exact z06.nilv _ _ _ _ (by omega)
 ·refine⟨g,0,⟨_,cap,rfl,U,I,λ _=>rfl,λ _=>hB g (y g rfl).1 (y g rfl).2⟩,λ j t hj=>?_⟩;obtain⟨z,vo,X,O,K,D,J⟩:=hc.get hj;have hb:=Zy hj
  refine⟨z,vo,?_,?_,?_,D,J⟩
  ·rw[h.cellAt (0+j*3) (by omega),zr];exact X
  ·rw[h.cellAt (0+j*3+1) (by omega),zr];exact O
  ·rw[h.cellAt (0+j*3+2) (by omega),zr];exact K
theorem Tryz.infoTerm:(Tryz.prog.info? 54).map (λ i=>(i.zero,i.size,i.bytes))=some (some (.agg #[.bool false,.slice none 0 0,.slice none 0 0]),3,56):=by kernel_rfl
abbrev uE:=@Tryz.infoTerm
section
variable {w w1 w2:World} {o:Value} {e:TypeId} {size n:Nat} {xs:List Value}
theorem XH(hx:Ext w w1)(ho:w1.ownsRow w.heap.size e size o n xs)(hg:w1.grownBy w2 o.ownBlock):Ext w w2:=YU hx hg (λ k hk=>(ho.lt k hk).1)
end
theorem QI{p:PZ}{k:Nat}{t:Int×Z7}(h:p[k]? = some t):Z5 (p.take (k+1))=Z5 (p.take k) ++ [⟨Z8 t.1,t.2⟩]:=by
 rw[zv,h];unfold Z5;rw[xl];rfl
theorem z5l(p:PZ):(Z5 p).length=p.length:=by unfold Z5;rw[zE]
abbrev Yy(w w1:World)(o:Value):Nat->Prop:=λ k=>New w w1 k/\some k≠o.ownBlock
theorem Yj{w w1 w2:World}{o:Value}{xs:List Value}{l:List RTerm}(h:z0v (Yy w w1 o) w1 xs l)(hx:Ext w1 w2):z0v (Yy w w2 o) w2 xs l :=
 h.to (uM hx (λ _ h=>h.1.2)) (λ _ h=>⟨⟨h.1.1,zU h.1.2 hx.size⟩,h.2⟩)
theorem Vs{w w2 w3:World}{o v3:Value}{xs:List Value}{l:List RTerm}{B:Nat}(h:z0v (Yy w w2 o) w2 xs l)(hg:w2.grownBy w3 o.ownBlock)(hb:v3.ownBlock=o.ownBlock∨v3.ownBlock=some B)(hB:w2.heap.size<=B):z0v (Yy w w3 v3) w3 xs l :=
 h.to (uJ hg (λ _ h=>⟨h.1.2,h.2⟩)) (λ k hk=>⟨⟨hk.1.1,zU hk.1.2 hg.size⟩,by
  rcases hb with e|e
  ·rw[e];exact hk.2
  ·rw[e];intro y;have e3:k=B:=Option.some.inj y;have:=hk.1.2
   omega⟩)
theorem Ti{w w0 w1:World}{o:Value}{e:TypeId}{size n:Nat}{xs:List Value}{l:List RTerm}{ys:List Value}(h0:w.heap.size<=w0.heap.size)(ho:w0.ownsRow w.heap.size e size o n ys)(h:z0v (New w0 w1) w1 xs l):z0v (Yy w w1 o) w1 xs l :=
 h.to (uN _ _) (λ k hk=>⟨⟨zT h0 hk.1,hk.2⟩,λ e=>by
  have:=(ho.lt k e.symm).2;have:=hk.1
  omega⟩)
theorem Wj(w:World)(cs:Array Value)(e:TypeId){size:Nat}(h1:∀u∈cs.toList,u.oneCell'=true)(hs:cs.size=size):Wq (w.alloc (.cells cs e)) (some ⟨w.heap.size,0,none⟩) 1 size cs.toList :=
 ⟨by simpa using hs,h1,λ _=>⟨_,rfl,λ j u hu=>by
  rw[z9j,zr]
  exact ZJ w cs e rfl (by simpa using hu)⟩⟩
theorem Lz{w1 w3:World}{v:Value}{n:Nat}{m:Z7}{e:TypeId}(h:w3.ownsRow w1.heap.size e 2 v (0+n) ([]++YC m))(hn:n=m.length)(hb:inBounds m):∃a c,v=.slice a n c/\Pows (New w1 w3) w3 v m:=by
 subst hn;rw[zr,yL]at h;have hp:=Ut h hb;obtain⟨a,c,rfl⟩:=hp.form;exact⟨a,c,rfl,hp⟩
theorem Bd{w1 w3:World}{cs:Array Value}{e:TypeId}(hg:(w1.alloc (.cells cs e)).grownBy w3 (some w1.heap.size)):Ext w1 w3 :=
 YU (uO (uP w1) _) hg (λ k hk=>by
  have:w1.heap.size=k:=Option.some.inj hk
  omega)
theorem Fh{wr w1 w3:World}(hx:Ext wr w1)(hg:w1.grownBy w3 (some wr.heap.size)):Ext wr w3 :=
 YU hx hg (λ k hk=>by
  have:wr.heap.size=k:=Option.some.inj hk
  omega)
theorem D9{wr w1 w3:World}{o:Obj}{v:Value}{zs:List Nat}(h:U32s (New (wr.alloc o) w1) w1 v zs)(hg:w1.grownBy w3 (some wr.heap.size)):U32s (New wr w3) w3 v zs:=by
 have y:∀k,New (wr.alloc o) w1 k->wr.heap.size+1<=k:=λ k hk=>by have:=hk.1;rw[z00]at this;exact this
 exact h.to (uJ hg (λ k hk=>⟨hk.2,λ e=>by
  have e2:k=wr.heap.size:=Option.some.inj e;have:=y k hk
  omega⟩)) (λ k hk=>⟨by have:=y k hk;omega,zU hk.2 hg.size⟩)
theorem UH{S:Nat->Prop}(v:Value)(p:PZ)(w:World)(h:RTs S w v p)(hS:∀k,S k->k<w.heap.size)(hsz:XN p)(hml:∀t∈p,t.2.length<=1000000) :
  Calls Tryz.prog 12 #[v] w λ e w'=>∃v',e=.returned v'/\z06 (New w w') w' v' (Z5 p)/\Ext w w':=by
 obtain⟨i0,hi,ba,ag,aF⟩:=info_parts uu;obtain⟨j0,hj,bB,bx,bg⟩:=info_parts uE;have hl:=h.len_le;have H:=Z_ h;have aA:=Z_ hsz;have bA:=Z_ hml;obtain⟨a,cap,rfl⟩:=h.form;clear h hsz hml
 go_enter Tryz.func12,Tryz.ntmps12
 go_wp2
 go_loopw [3,4] (λ o i wr=>∃k xs,k<=p.length/\i=.int .i64 (k:Nat)/\Ext w wr/\Hd (wr.ownsRow w.heap.size 54 3 o k xs)/\Hd (z0v (Yy w wr o) wr xs (Z5 (p.take k)))) (λ _ i _=>p.length-(intOf i).toNat)
 case atStart=>exact⟨0,[],zL _,rfl,uP _,Z_ (World.ownsRow_nil _ _ _ _),Z_ rfl⟩
 case round=>
  obtain⟨k,xs,hk,rfl,hx,HW,a5⟩:=hrel;have HX:=Z_ hx
  by_cases bn:k<p.length
  ·obtain⟨t,ht⟩:=ZN bn;obtain⟨b,off,vd,vo,rfl,-,hn1,hm1,hSb,h1,h2,h3,h4,h5⟩:=H.o.cellAt ht;have HT:=Z_ (QI ht);have a8:=Z_ (bA.o t (zP ht));have bm:=Z_ (aA.o.2 t (zP ht));have H4:=Z_ h4;have H5:=Z_ h5;have aS:=Z_ h5.inBounds;obtain⟨ad,cd,rfl⟩:=h4.form;obtain⟨ao,co,rfl⟩:=h5.form;have x0:Ext w wr.drew:=hx.drew;have ac:=Z_ x0;have aR:=Z_ ((uP wr).drew);have h0:_/\_/\_:=zS h1 (zS h2 h3);have c1:=λ(W:World) (hW:Ext wr.drew W)=>KW (S:=S) _ t.1 W (show ZV S W (.agg #[.bool (decide (t.1<0)),.slice ad (Z4 10 t.1.natAbs).length cd]) t.1 from⟨_,rfl,H4.o.ext (ac.o.trans hW) hS⟩) (ZM hS (ac.o.trans hW)) bm.o;obtain⟨bt,ay⟩:∃b,b=decide (t.1<0):=⟨_,rfl⟩
   obtain⟨nt,az⟩:∃n,n=(Z4 10 t.1.natAbs).length:=⟨_,rfl⟩
   obtain⟨U,ah⟩:∃n,n=t.2.length:=⟨_,rfl⟩
   have a9:=Z_ ah;rw[<-ay,<-az,<-ah]at h0;rw[<-ay,<-az]at c1;rw[<-ah]at H5;have z:=Z_ h0;have S0:_/\_/\_:=zS (x0.cell h0.1) (zS (x0.cell h0.2.1) (x0.cell h0.2.2));have C1:=Z_ c1;have a4:Hd (0+U<=maxLen):=Z_ (by have:=a8.o;rw[<-ah]at this;unfold maxLen;omega);have bb:Hd ((0+U)*16<=140737488355328):=Z_ (by have:=a8.o;rw[<-ah]at this;omega);have bs:Hd (k+1<=maxLen):=Z_ (by have:=aA.o.1;unfold maxLen;omega);have bl:Hd ((k+1)*56<=140737488355328):=Z_ (by have:=aA.o.1;omega);have a6:Hd (0<=maxLen):=Z_ (zL _);have ax:=Z_ (Zp HW.o aR.o);have ar:=Z_ (Yj a5.o aR.o);clear ht h0 h1 h2 h3 h4 h5 hx x0 c1 ay az ah;go_wp2
   go_region_held3 (λ W=>W.cell? ⟨b,off+k*3,none⟩=some (.bool bt)/\W.cell? ⟨b,off+k*3+1,none⟩=some (.slice ad nt cd)/\W.cell? ⟨b,off+k*3+2,none⟩=some (.slice ao U co)) (first|exact S0|exact⟨Z1 _ S0.1,Z1 _ S0.2.1,Z1 _ S0.2.2⟩|exact S1|exact⟨Z1 _ S1.1,Z1 _ S1.2.1,Z1 _ S1.2.2⟩|exact S3|exact⟨Z1 _ S3.1,Z1 _ S3.2.1,Z1 _ S3.2.2⟩|exact S5)
    (first
     | (go_at_call 25;refine(C1.o _ ?_).mono ?_;· exact uP _
        rintro e w1 ⟨v1,rfl,ag,X⟩;have av:=Z_ X;have D:Hd (Ext w w1):=Z_ (ac.o.trans X);have S1:_/\_/\_:=zS (D.o.cell z.o.1) (zS (D.o.cell z.o.2.1) (D.o.cell z.o.2.2))
        obtain⟨vm,rfl,ae⟩:=ag;have ai:=Z_ ae;obtain⟨am,cm,rfl⟩:=ae.form;obtain⟨ng,Z⟩:∃b,b=(Z8 t.1).neg:=⟨_,rfl⟩;obtain⟨nl,O⟩:∃b,b=(Z8 t.1).mag.length:=⟨_,rfl⟩;rw[<-Z,<-O];rw[<-O]at ai;have aG:=Z_ Z;have b2:=Z_ O
        have bv:=Z_ (World.ownsRow_made (base:=w1.heap.size) (e:=56) (size:=2) w1 #[] 0 (zR _) a6.o rfl);have aa:=Z_ ((Pows.ext' H5.o (D.o.alloc (.cells #[] 56)) hS).src.2);have aC:=Z_ (World.grownBy_alloc w1 (.cells #[] 56) none).size;clear X ae Z O)
     | (go_at_call 25;refine(C1.o _ ?_).mono ?_;· exact uO (uP _) _
        rintro e w1 ⟨v1,rfl,ag,X⟩;have av:Hd (Ext (wr.drew.alloc (.cells #[] 56)) w1):=Z_ X;have af:=Z_ ((uO (uP wr.drew) (.cells #[] 56)).trans X);have D:Hd (Ext w w1):=Z_ (ac.o.trans af.o);have S1:_/\_/\_:=zS (D.o.cell z.o.1) (zS (D.o.cell z.o.2.1) (D.o.cell z.o.2.2))
        obtain⟨vm,rfl,ae⟩:=ag;have ai:Hd (U32s (New (wr.drew.alloc (.cells #[] 56)) w1) w1 vm (Z8 t.1).mag):=Z_ ae;obtain⟨am,cm,rfl⟩:=ae.form;obtain⟨ng,Z⟩:∃b,b=(Z8 t.1).neg:=⟨_,rfl⟩;obtain⟨nl,O⟩:∃b,b=(Z8 t.1).mag.length:=⟨_,rfl⟩;rw[<-Z,<-O];rw[<-O]at ai;have aG:=Z_ Z;have b2:=Z_ O
        have bN:=Z_ (Zp (World.ownsRow_made (base:=wr.heap.size) (e:=56) (size:=2) wr.drew #[] 0 (zR _) a6.o rfl) X);have aa:=Z_ ((Pows.ext' H5.o D.o hS).src.2);have aC:=Z_ af.o.size;clear X ae Z O)
     |(refine XE rfl (.tmp 18) (.tmp 23) 52 rfl w1.heap.size 56 i0 (.agg #[.int .i64 0,.int .i64 0]) 2 16 Tryz.underlying52 hi ba ag aF rfl (yC _) (.slice (some ⟨w1.heap.size,0,none⟩) 0 0) 0 [] rfl bv.o ao U co (YC t.2) rfl aa.o a4.o bb.o aC.o ?_;intro v3 K I hg _;obtain⟨a3,c3,rfl,al⟩:=Lz I a9.o aS.o;have aq:=Bd hg;have J:Hd (Ext wr.drew K):=Z_ (av.o.trans aq);have a2:Hd (Pows (New wr.drew K) K (.slice a3 U c3) t.2):=Z_ (al.to (uN _ _) (λ k h=>⟨zT av.o.size h.1,h.2⟩));have aP:Hd (U32s (New wr.drew K) K (.slice am nl cm) (Z8 t.1).mag):=Z_ (ai.o.to (uM aq (λ _ h=>h.2)) (λ k h=>⟨h.1,zU h.2 aq.size⟩));clear aq I hg al;have y:Hd (Ext w K):=Z_ (ac.o.trans J.o);have S3:_/\_/\_:=zS (y.o.cell z.o.1) (zS (y.o.cell z.o.2.1) (y.o.cell z.o.2.2));have aB:=Z_ (Zp (Zp ax.o J.o) (uO (uP K) (.cells #[.bool ng,.slice am nl cm,.slice a3 U c3] 54)));have au:=Z_ (Yj ar.o J.o);have aj:=Z_ (Wj K #[.bool ng,.slice am nl cm,.slice a3 U c3] 54 (Xn rfl rfl rfl) rfl);have aH:=Z_ (zT y.o.size (World.grownBy_alloc K (.cells #[.bool ng,.slice am nl cm,.slice a3 U c3] 54) none).size))
     |(refine XE rfl (.tmp 18) (.tmp 23) 52 rfl wr.heap.size 56 i0 (.agg #[.int .i64 0,.int .i64 0]) 2 16 Tryz.underlying52 hi ba ag aF rfl (yC _) (.slice (some ⟨wr.heap.size,0,none⟩) 0 0) 0 [] rfl bN.o ao U co (YC t.2) rfl aa.o a4.o bb.o aC.o ?_;intro v3 K I hg _;obtain⟨a3,c3,rfl,al⟩:=Lz (w1:=wr.drew) I a9.o aS.o;have J:Hd (Ext wr.drew K):=Z_ (Fh af.o hg);have a2:Hd (Pows (New wr.drew K) K (.slice a3 U c3) t.2):=Z_ al;have aP:Hd (U32s (New wr.drew K) K (.slice am nl cm) (Z8 t.1).mag):=Z_ (D9 ai.o hg);clear af I hg al;have y:Hd (Ext w K):=Z_ (ac.o.trans J.o);have S3:_/\_/\_:=zS (y.o.cell z.o.1) (zS (y.o.cell z.o.2.1) (y.o.cell z.o.2.2));have aB:=Z_ (Zp (Zp ax.o J.o) (uO (uP K) (.cells #[.bool ng,.slice am nl cm,.slice a3 U c3] 54)));have au:=Z_ (Yj ar.o J.o);have aj:=Z_ (Wj K #[.bool ng,.slice am nl cm,.slice a3 U c3] 54 (Xn rfl rfl rfl) rfl);have aH:=Z_ (zT y.o.size (World.grownBy_alloc K (.cells #[.bool ng,.slice am nl cm,.slice a3 U c3] 54) none).size))
     |(refine XE rfl (.tmp 11) (.tmp 26) 35 rfl w.heap.size 54 j0 (.agg #[.bool false,.slice none 0 0,.slice none 0 0]) 3 56 Tryz.underlying35 hj bB bx bg rfl (yC _) _ k xs rfl aB.o (some ⟨K.heap.size,0,none⟩) 1 1 _ rfl aj.o bs.o bl.o aH.o ?_;intro v5 w5 I hg aN;have b1:=Z_ I;have bu:=Z_ hg;have bf:=Z_ aN;have ap:=Z_ (XH (y.o.alloc (.cells #[.bool ng,.slice am nl cm,.slice a3 U c3] 54)) aB.o hg);have S5:_/\_/\_:=zS (ap.o.cell z.o.1) (zS (ap.o.cell z.o.2.1) (ap.o.cell z.o.2.2));clear I hg aN))
   all_goals
    go_wp2
    go_roundw
    case rel=>
     refine⟨k+1,xs++(#[.bool ng,.slice am nl cm,.slice a3 U c3]:Array Value).toList,by omega,by go_num,ap.o,b1,Z_ ?_⟩;rw[HT.o]
     have a0:z0v (New wr.drew K) K (#[.bool ng,.slice am nl cm,.slice a3 U c3]:Array Value).toList [⟨Z8 t.1,t.2⟩]:=by
      rw[aG.o];exact z0v.single (t:=⟨Z8 t.1,t.2⟩) aP.o a2.o
     have a7:=au.o.append (Ti ac.o.size ax.o a0);exact Vs (Yj a7 (uO (uP K) (.cells #[.bool ng,.slice am nl cm,.slice a3 U c3] 54))) bu.o bf.o (zR _)
    case measure=>simp only[intOf];omega
  ·obtain rfl:k=p.length:=by omega
   have HE:Hd (p.take p.length=p):=Z_ yW;clear hx;go_wp2;go_ret;refine⟨_,rfl,?_,HX.o⟩;have hc:=a5.o;rw[HE.o]at hc;exact Vk (by rw[z5l];exact HW.o) (hc.to (uN _ _) (λ _ h=>h.1)) (λ k h1 h2=>⟨h1,h2⟩)
end
section
open Go.RowKit
theorem QW{z:Int}{n:Nat}(h:z.natAbs<10^n)(hn:n<=2000000):XZ z:=zT (YZ Y5 _ _ h) hn
theorem KU{n:Nat}(h:n<9223372036854775808):XZ (n:Int):=QW (n:=19) (by simp only[y7];omega) (by omega)
def UZ(n:Nat):PZ:=putP [] (n:Int) []
theorem FV(n:Nat)(w:World)(hn:n<9223372036854775808) :
  Calls Tryz.prog 16 #[.int .i64 (n:Nat)] w λ e w'=>∃v',e=.returned v'/\RTs (New w w') w' v' (UZ n)/\Ext w w':=by
 have U:=Z_ (NU n w hn);have X:=Z_ (KU hn);clear hn
 go_enter Tryz.func16,Tryz.ntmps16
 go_wp2_with fail;refine U.o.mono ?_;rintro e w1 ⟨v1,rfl,D,z⟩;have J:=Z_ z;have Z:=Z_ (RE (S:=New w w1) (.slice none 0 0) v1 (.slice none 0 0) [] (n:Int) [] w1 (λ _ h=>h.2) (RTs.nilv _ _ _ _ (by omega)) D (uB _ _ _) z3a.may rfl ⟨by simp,λ t ht=>by simp at ht⟩ X.o);clear z D;go_wp2_with fail;refine Z.o.mono ?_;rintro e w2 ⟨v2,rfl,I,y⟩;have K:=Z_ (J.o.trans y)
 have O:Hd (RTs (New w w2) w2 v2 (UZ n)):=Z_ (I.to (uN _ _) (λ k hk=>by
  rcases hk with h|h
  ·exact⟨h.1,zU h.2 y.size⟩
  ·exact⟨zT J.o.size h.1,h.2⟩))
 clear I y;go_wp2
 all_goals
  go_ret;exact⟨_,rfl,O.o,K.o⟩
theorem Q1(x:Int)(w:World)(hx:Zv x) :
  Calls Tryz.prog 10 #[.int .i64 x] w λ e w'=>∃v',e=.returned v'/\RTs (New w w') w' v' [(1,[(x,1)])]/\Ext w w':=by
 have C1:=Z_ (NU 1 w (by omega));have X:=Z_ hx;clear hx
 go_enter Tryz.func10,Tryz.ntmps10
 go_wp2_with fail;refine C1.o.mono ?_;rintro e w1 ⟨v1,rfl,O,J⟩;obtain⟨vd,rfl,K⟩:=O;have z:=Z_ J;have Z:=Z_ K;obtain⟨ad,cd,rfl⟩:=K.form;obtain⟨nd,I⟩:∃n,n=(Z4 10 ((1:Nat):Int).natAbs).length:=⟨_,rfl⟩
 obtain⟨bd,D⟩:∃b,b=decide (((1:Nat):Int)<0):=⟨_,rfl⟩
 rw[<-I]at Z⊢;rw[<-D];have HB:=Z_ D;clear J K I D;go_wp2;go_ret;have x2:Ext w1 ((w1.alloc (.cells #[.int .i64 x,.int .i64 1] 56)).alloc (.cells #[.bool bd,.slice ad nd cd,.slice (some ⟨w1.heap.size,0,none⟩) 1 1] 98)):=(uO (uO (uP w1) _) _)
 have hb:(w1.alloc (.cells #[.int .i64 x,.int .i64 1] 56)).heap.size=w1.heap.size+1:=z00 _ _;refine⟨_,rfl,?_,z.o.trans x2⟩;refine⟨w1.heap.size+1,0,⟨_,1,rfl,zR _,by decide,λ _=>by rw[<-hb],λ _=>⟨zT z.o.size (zw _),by rw[z00,hb]<;>omega⟩⟩,λ j t hj=>?_⟩;have y:j=0:=by have:=Zy hj;simp at this;exact this
 subst y;obtain rfl:(1,[(x,1)])=t:=by simpa using hj
 refine⟨.slice ad nd cd,.slice (some ⟨w1.heap.size,0,none⟩) 1 1,?_,?_,?_,Z.o.to (uM x2 (λ _ h=>h.2)) (λ k h=>⟨h.1,zU h.2 x2.size⟩),?_⟩
 ·exact ZJ _ _ _ (by rw[hb]) (by rw[HB.o];rfl)
 ·exact ZJ _ _ _ (by rw[hb]) rfl
 ·exact ZJ _ _ _ (by rw[hb]) rfl
 ·refine⟨w1.heap.size,0,⟨_,1,rfl,zR _,by decide,λ _=>rfl,λ _=>⟨z.o.size,by rw[z00,hb]<;>omega⟩⟩,λ j t hj=>?_⟩;have y:j=0:=by have:=Zy hj;simp at this;exact this
  subst y;obtain rfl:(x,1)=t:=by simpa using hj
  have U:Zv (1:Int):=by unfold Zv;omega
  exact⟨⟨X.o,U⟩,Z1 _ (ZJ _ _ _ rfl rfl),Z1 _ (ZJ _ _ _ rfl rfl)⟩
end
section
open Go.RowKit
def Xa(t u:Int×Z7):Option (Int×Z7):=(XD t.2 u.2).map λ m=>(t.1*u.1,m)
def Yt(p q:PZ):List (Option (Int×Z7)):=p.flatMap λ t=>q.map (Xa t)
def allO:List (Option (Int×Z7))->Option PZ
 | []=>some []
 |none :: _=>none
 |some x :: r=>(allO r).map (x :: ·)
def ZI(p q:PZ):Option PZ:=(allO (Yt p q)).map Zr
theorem OQ{xs:PZ}:allO (xs.map some)=some xs:=by
 induction xs with
 |nil=>rfl
 |cons x r ih=>simp only[ya,allO,ih,uY]
theorem NS{l r:List (Option (Int×Z7))}:allO (l++none :: r)=none:=by
 induction l with
 |nil=>rfl
 |cons x l ih=>
  cases x with
  |none=>rfl
  |some x=>simp only[zc,allO,ih,Option.map_none]
def XM(p:PZ)(L M:Nat):Prop:=p.length<=L/\∀t∈p,t.1.natAbs<=M
theorem Ma(p:PZ)(c:Int)(m:Z7):(putP p c m).length<=p.length+1:=by
 induction p with
 |nil=>simp only[putP];split<;>simp
 |cons t r ih=>
  simp only[putP]
  split
  ·simp only[zM];omega
  ·split
   ·split<;>simp only[zM]<;>omega
   ·split<;>simp only[zM]<;>omega
theorem Bj{p:PZ}{c:Int}{m:Z7}{M N:Nat}(h:∀t∈p,t.1.natAbs<=M)(hc:c.natAbs<=N):∀t∈putP p c m,t.1.natAbs<=M+N:=by
 induction p with
 |nil=>
  intro t y;simp only[putP]at y
  split at y
  ·simp at y
  ·rw[zQ.1 y];simp only;omega
 |cons u r z=>
  have hu:=h u (by simp);have D:∀t∈r,t.1.natAbs<=M:=λ t y=>h t (by simp[y]);have z:=z D;intro t y;simp only[putP]at y
  split at y
  ·rcases zJ.1 y with rfl|y
   ·omega
   ·exact z t y
  ·split at y
   ·split at y
    ·have:=D t y;omega
    ·rcases zJ.1 y with rfl|y
     ·simp only;omega
     ·have:=D t y;omega
   ·split at y
    ·have:=h t y;omega
    ·rcases zJ.1 y with rfl|y
     ·simp only;omega
     ·have:=h t y;omega
theorem KI{p:PZ}{c:Int}{m:Z7}{L M N:Nat}(h:XM p L M)(hc:c.natAbs<=N):XM (putP p c m) (L+1) (M+N) :=
 ⟨zT (Ma _ _ _) (by have:=h.1;omega),Bj h.2 hc⟩
theorem Oi{p l:PZ}{L M N:Nat}(h:XM p L M)(hl:∀t∈l,t.1.natAbs<=N):XM (addP p l) (L+l.length) (M+l.length*N):=by
 induction l generalizing p L M with
 |nil=>simpa[addP]using h
 |cons t r ih=>
  have y:=ih (KI (m:=t.2) h (hl t (by simp))) (λ u hu=>hl u (by simp[hu]));show XM (addP (putP p t.1 t.2) r) _ _;simp only[zM];refine⟨by have:=y.1;omega,λ u hu=>?_⟩;have:=y.2 u hu;rw[y8];omega
theorem Gy:XM [] 0 0:=⟨by simp,λ t ht=>by simp at ht⟩
theorem Qx{p:PZ}{L M n:Nat}(h:XM p L M)(hL:L<=1000000000000)(hM:M<10^n)(hn:n<=2000000):XN p :=
 ⟨zT h.1 hL,λ t ht=>QW (zh (h.2 t ht) hM) hn⟩
theorem IQ{m:Z7}{l v e:Int}(h:z0d l m=true)(hv:∀x∈m,x.1<v)(hl:l<v)(h2:v<=200)(h3:1<=e/\e<=10000):z0d l (m ++ [(v,e)])=true:=by
 induction m generalizing l with
 |nil=>
  simp only[yL,z0d,Bool.and_true,decide_eq_true_eq];omega
 |cons x r ih=>
  simp only[zc,z0d,zK]at h⊢;exact⟨h.1,ih h.2 (λ y hy=>hv y (by simp[hy])) (hv x (by simp))⟩
theorem OX(f:Nat->Int)(k:Nat):∀x∈ofE f k,x.1<=(k:Int):=by
 induction k with
 |zero=>intro x y;simp[ofE]at y
 |succ k ih=>
  intro x y;simp only[ofE]at y
  split at y
  ·rcases zC.1 y with y|y
   ·have:=ih x y;omega
   ·rw[zQ.1 y];simp only;omega
  ·have:=ih x y;omega
theorem NQ{f:Nat->Int}{n:Nat}(hn:n<=200)(h:∀j,1<=j->j<=n->f j<=10000):Z3 (ofE f n)=true:=by
 induction n with
 |zero=>rfl
 |succ k y=>
  have y:=y (by omega) (λ j h1 h2=>h j h1 (by omega));simp only[ofE]
  split
  ·rename_i hp
   refine IQ y (λ x hx=>?_) (by omega) (by omega) ⟨by omega,h (k+1) (by omega) (zR _)⟩;have:=OX f k x hx;omega
  ·exact y
theorem Lm{f:Nat->Int}{n:Nat}(h:z7b f n=false):∀j,1<=j->j<=n->f j<=10000:=by
 induction n with
 |zero=>intro j y z;omega
 |succ k ih=>
  simp only[z7b,wS,decide_eq_false_iff_not]at h;intro j y z
  by_cases e:j=k+1
  ·subst e;have:=h.2;omega
  ·exact ih h.1 j y (by omega)
theorem O3{a b m:Z7}(h:XD a b=some m):Z3 m=true:=by
 unfold XD at h
 split at h
 ·cases h
 ·rename_i ho
  cases h
  exact NQ (zR _) (Lm (by simpa using ho))
theorem NL(p q:PZ):(Yt p q).length=p.length*q.length:=by
 induction p with
 |nil=>simp[Yt]
 |cons t r ih=>
  have e:Yt (t :: r) q=q.map (Xa t)++Yt r q:=by unfold Yt;rw[xT]
  rw[e,zI,zE,ih,zM,y8];omega
theorem QN{p q:PZ}{k j:Nat}{t u:Int×Z7}(ht:p[k]? = some t)(hu:q[j]? = some u):(Yt p q)[k*q.length+j]? = some (Xa t u):=by
 have y:=Zy hu
 induction p generalizing k with
 |nil=>simp at ht
 |cons x r ih=>
  have e:Yt (x :: r) q=q.map (Xa x)++Yt r q:=by unfold Yt;rw[xT]
  rw[e]
  cases k with
  |zero=>
   obtain rfl:x=t:=by simpa using ht
   rw[yE,zr,yc (by rw[zE];exact y),yZ,hu];rfl
  |succ k=>
   have:=ih (k:=k) (by simpa using ht);rw[yI (by rw[zE,y8];omega),zE,show(k+1)*q.length+j-q.length=k*q.length+j by rw[y8];omega];exact this
theorem N_{t u x:Int×Z7}(h:Xa t u=some x):Z3 x.2=true/\x.1=t.1*u.1:=by
 unfold Xa at h
 cases hr:XD t.2 u.2 with
 |none=>rw[hr]at h;simp at h
 |some m=>
  rw[hr]at h;simp at h;subst h;exact⟨O3 hr,rfl⟩
theorem DP{p q:PZ}{x:Int×Z7}(h:some x∈Yt p q):Z3 x.2=true/\∃t∈p,∃u∈q,x.1=t.1*u.1:=by
 unfold Yt at h;obtain⟨t,ht,h⟩:=xd.1 h;obtain⟨u,hu,h⟩:=zG.1 h;exact⟨(N_ h).1,t,ht,u,hu,(N_ h).2⟩
def XI(p q:PZ)(n:Nat)(xs:PZ):Prop:=(Yt p q).take n=xs.map some
theorem QT(p q:PZ):XI p q 0 []:=rfl
theorem PA{p q:PZ}{n:Nat}{xs:PZ}{x:Int×Z7}(h:XI p q n xs)(hx:(Yt p q)[n]? = some (some x)):XI p q (n+1) (xs ++ [x]):=by
 unfold XI at h⊢;rw[zv,h,hx];simp
theorem Rk{p q:PZ}{n:Nat}{xs:PZ}(_h:XI p q n xs)(hx:(Yt p q)[n]? = some none):ZI p q=none:=by
 unfold ZI;have e:Yt p q=(Yt p q).take n++none :: (Yt p q).drop (n+1):=by rw[<-Wh hx,y_]
 rw[e,NS];rfl
theorem Rw{p q:PZ}{n:Nat}{xs:PZ}(h:XI p q n xs)(hn:n=p.length*q.length):ZI p q=some (Zr xs):=by
 unfold XI at h;rw[zN (by rw[NL];omega)]at h;unfold ZI;rw[h,OQ];rfl
theorem Ub{p q:PZ}{n:Nat}{xs:PZ}(h:XI p q n xs){x:Int×Z7}(hx:x∈xs):Z3 x.2=true/\∃t∈p,∃u∈q,x.1=t.1*u.1:=by
 apply DP
 have:some x∈(Yt p q).take n:=by rw[h];exact zG.2 ⟨x,hx,rfl⟩
 exact yU this
theorem A7{p q:PZ}{n:Nat}{xs:PZ}(h:XI p q n xs):xs.length<=p.length*q.length:=by
 have h1:((Yt p q).take n).length=xs.length:=by rw[h,zE]
 rw[<-h1,zD,NL];exact vw _ _
def Ts(p q:PZ):Prop:=∃N n,(∀t∈p,∀u∈q,(t.1*u.1).natAbs<=N)/\p.length*q.length<=1000000000000/\p.length*q.length*N<10^n/\n<=2000000
theorem Ca{p q:PZ}{n:Nat}{xs:PZ}(h:XI p q n xs)(hs:Ts p q):XN (Zr xs):=by
 obtain⟨N,e,J,h2,I,K⟩:=hs;have D:=A7 h
 have hb:=Oi (N:=N) Gy (l:=xs) (λ t ht=>by
  obtain⟨_,a,y,b,hb,z⟩:=Ub h ht;rw[z]
  exact J a y b hb)
 simp only[zr]at hb;exact Qx hb (by omega) (zh (zF N D) I) K
theorem F_{p q:PZ}(hs:Ts p q){t u:Int×Z7}(ht:t∈p)(hu:u∈q):XZ (t.1*u.1):=by
 obtain⟨N,e,J,h2,D,I⟩:=hs;have h5:=J t ht u hu;have z:0<p.length:=List.length_pos_of_mem ht;have y:0<q.length:=List.length_pos_of_mem hu;have:1*N<=p.length*q.length*N:=zF N (vG z y);exact QW (zh (by omega) D) I
end
section
open Go.RowKit
def Fq:Option PZ->Bool
 |none=>false
 |some _=>true
def PQ:Option PZ->PZ
 |none=>[]
 |some p=>p
theorem Kw{S:Nat->Prop}(vp vq:Value)(p q:PZ)(w:World)(hS:∀k,S k->k<w.heap.size)(hp:RTs S w vp p)(hq:RTs S w vq q)(hmp:ZD p)(hmq:ZD q)(hszp:XN p)(hszq:XN q)(hsz:Ts p q) :
  Calls Tryz.prog 29 #[vp,vq] w λ e w'=>∃v',e=.returned (.tuple #[v',.bool (Fq (ZI p q))])/\RTs (ZG S w w') w' v' (PQ (ZI p q))/\Ext w w':=by
 have hlp:=hp.len_le;have hlq:=hq.len_le;have HP:=Z_ hp;have HQ:=Z_ hq;have a8:=Z_ hmp;have bm:=Z_ hmq;have bl:=Z_ hszp;have a4:=Z_ hszq;have aR:=Z_ hsz;obtain⟨ap,cp,rfl⟩:=hp.form;obtain⟨aq,cq,rfl⟩:=hq.form;obtain⟨R,hR⟩:∃R,R=ZI p q:=⟨_,rfl⟩
 rw[<-hR];have HR:=Z_ hR;clear hp hq hmp hmq hszp hszq hsz hR
 go_enter Tryz.func29,Tryz.ntmps29
 go_wp2
 go_loopw [6,7] (λ o i wr=>∃k xs n,k<=p.length/\i=.int .i64 (k:Nat)/\Ext w wr/\Hd (n=k*q.length)/\Hd (XI p q n xs)/\Hd (RTs (ZG S w wr) wr o (Zr xs))) (λ _ i _=>p.length-(intOf i).toNat)
 case atStart=>exact⟨0,[],0,zL _,rfl,uP _,Z_ (by rw[yE]),Z_ (QT _ _),Z_ (RTs.nilv _ _ _ _ (by omega))⟩
 case round=>
  obtain⟨k,xs,n,hk,rfl,hx,HN,Z,HO⟩:=hrel;have HX:=Z_ hx
  by_cases bn:k<p.length
  ·obtain⟨t,ht⟩:=ZN bn;have HT:=Z_ ht;clear ht hx;go_wp2
   go_loopw [6,8] (λ o i wr=>∃j xs n,j<=q.length/\i=.int .i64 (j:Nat)/\Ext w wr/\Hd (n=k*q.length+j)/\Hd (XI p q n xs)/\Hd (RTs (ZG S w wr) wr o (Zr xs))) (λ _ i _=>q.length-(intOf i).toNat)
   case atStart=>exact⟨0,xs,n,zL _,rfl,HX.o,Z_ (by rw[HN.o,zp]),Z,HO⟩
   case round=>
    clear HO Z HN HX;clear xs n;obtain⟨j,xs,n,hj,rfl,hx,HN,Z,HO⟩:=hrel;have HX:=Z_ hx
    by_cases bv:j<q.length
    ·obtain⟨u,hu⟩:=ZN bv;have ae:Hd ((Yt p q)[n]? = some (Xa t u)):=Z_ (by rw[HN.o];exact QN HT.o hu);have aj:=Z_ (zP HT.o);have az:=Z_ (zP hu);obtain⟨b,off,vd,vo,rfl,-,hn1,hm1,hSb,h1,h2,h3,h4,h5⟩:=HP.o.cellAt HT.o;obtain⟨b',J,vd',vo',rfl,-,hn1',hm1',hSb',ag,ay,aG,ah,aA⟩:=HQ.o.cellAt hu;have H4:=Z_ h4;have H5:=Z_ h5;have bB:=Z_ ah;have a9:=Z_ aA;obtain⟨ad,cd,rfl⟩:=h4.form;obtain⟨ao,co,rfl⟩:=h5.form;obtain⟨aH,a3,rfl⟩:=ah.form;obtain⟨aB,a2,rfl⟩:=aA.form;have x0:Ext w wr.drew:=hx.drew;have ar:=Z_ x0;have bs:=Z_ ((uP wr).drew);have S0:_/\_:=zS (x0.cell h3) (x0.cell aG);have O:=B7 (S:=S) _ _ t.2 u.2 wr.drew (H5.o.ext x0 hS) (a9.o.ext x0 hS) (ZM hS x0) (a8.o t aj.o) (bm.o u az.o);have CM:=λ(W:World) (hW:Ext w W)=>Jq (S:=S) (.agg #[.bool (decide (t.1<0)),.slice ad (Z4 10 t.1.natAbs).length cd]) (.agg #[.bool (decide (u.1<0)),.slice aH (Z4 10 u.1.natAbs).length a3]) t.1 u.1 W ⟨_,rfl,H4.o.ext hW hS⟩ ⟨_,rfl,bB.o.ext hW hS⟩ (ZM hS hW) (bl.o.2 t aj.o) (a4.o.2 u az.o);obtain⟨bt,au⟩:∃b,b=decide (t.1<0):=⟨_,rfl⟩
     obtain⟨nt,av⟩:∃n,n=(Z4 10 t.1.natAbs).length:=⟨_,rfl⟩
     obtain⟨bu,al⟩:∃b,b=decide (u.1<0):=⟨_,rfl⟩
     obtain⟨nu,ax⟩:∃n,n=(Z4 10 u.1.natAbs).length:=⟨_,rfl⟩
     obtain⟨mt,aP⟩:∃n,n=t.2.length:=⟨_,rfl⟩
     obtain⟨mu,aS⟩:∃n,n=u.2.length:=⟨_,rfl⟩
     rw[<-au,<-av,<-al,<-ax]at CM;rw[<-aP,<-aS]at S0 O;rw[<-au]at h1;rw[<-av]at h2;rw[<-al]at ag;rw[<-ax]at ay;have aa:Hd (_/\_/\_/\_):=Z_ (zS h1 (zS h2 (zS ag ay)));have a5:=Z_ CM;have bb:=Z_ (F_ aR.o aj.o az.o);have bx:=Z_ (Ca Z.o aR.o);have bg:Hd (ZD (Zr xs)):=Z_ (SR (λ y hy=>(Ub Z.o hy).1)).may;clear hu h1 h2 h3 h4 h5 ag ay aG ah aA hx x0 CM au av al ax aP aS
     cases hr:XD t.2 u.2 with
     |none=>
      have bN:Hd (R=none):=Z_ (HR.o.trans (Rk Z.o (by rw[ae.o];unfold Xa;rw[hr];rfl)));rw[hr]at O;unfold Qi QB at O;simp only at O;have af:=Z_ O;clear O hr;go_wp2
      go_region_held3 (λ W=>W.cell? ⟨b,off+k*3+2,none⟩=some (.slice ao mt co)/\W.cell? ⟨b',J+j*3+2,none⟩=some (.slice aB mu a2)) (first|exact S0|exact S1)
       (first
        |(go_at_call 51;(with_reducible refine af.o.mono ?_);rintro e w1 ⟨v1,rfl,X,z⟩;have S1:_/\_:=zS (z.cell S0.1) (z.cell S0.2);have U:=Z_ (ar.o.trans z);clear z X))
      go_wp2
      all_goals
       go_ret2;rw[bN.o];exact⟨_,rfl,RTs.nilv _ _ _ _ (by omega),U.o⟩
     |some m=>
      have a7:=Z_ (O3 hr);have bf:=Z_ (PA Z.o (x:=(t.1*u.1,m)) (by rw[ae.o];unfold Xa;rw[hr];rfl));rw[hr]at O;unfold Qi QB at O;simp only at O;have af:=Z_ O;clear O hr;go_wp2
      go_region_held3 (λ W=>W.cell? ⟨b,off+k*3+2,none⟩=some (.slice ao mt co)/\W.cell? ⟨b',J+j*3+2,none⟩=some (.slice aB mu a2)) (first|exact S0|exact S1)
       (first
        |(go_at_call 51;(with_reducible refine af.o.mono ?_);rintro e w1 ⟨v1,rfl,X,z⟩;have S1:_/\_:=zS (z.cell S0.1) (z.cell S0.2);have U:=Z_ (ar.o.trans z);have a0:=Z_ (bs.o.trans z);have b1:Hd (Pows (ZG S w w1) w1 v1 m):=Z_ (X.to (uN _ _) (NP ar.o.size));clear z X))
      have x1:Ext w w1.drew:=U.o.drew;have ac:=Z_ x1;have T0:_/\_/\_/\_:=zS (x1.cell aa.o.1) (zS (x1.cell aa.o.2.1) (zS (x1.cell aa.o.2.2.1) (x1.cell aa.o.2.2.2)));have aF:=Z_ (a5.o w1.drew x1);clear x1 S0 S1;go_wp2
      go_region_held3 (λ W=>W.cell? ⟨b,off+k*3,none⟩=some (.bool bt)/\W.cell? ⟨b,off+k*3+1,none⟩=some (.slice ad nt cd)/\W.cell? ⟨b',J+j*3,none⟩=some (.bool bu)/\W.cell? ⟨b',J+j*3+1,none⟩=some (.slice aH nu a3)) (first|exact T0|exact T1|exact T2)
       (first
        |(go_at_call 52;(with_reducible refine aF.o.mono ?_);rintro e w2 ⟨v2,rfl,aC,D⟩;have T1:_/\_/\_/\_:=zS (D.cell T0.1) (zS (D.cell T0.2.1) (zS (D.cell T0.2.2.1) (D.cell T0.2.2.2)));have ai:Hd (Ext w w2):=Z_ (ac.o.trans D);have K:Hd (Ext w1 w2):=Z_ (((uP w1).drew).trans D);have C2:=Z_ (RE (S:=ZG S w w2) _ _ _ (Zr xs) (t.1*u.1) m w2 (X_ hS ai.o) (RTs.later hS HO.o HX.o (a0.o.trans K.o)) (aC.to (uN _ _) (NP ac.o.size)) (b1.o.to (uM K.o (X_ hS U.o)) (Ue K.o.size)) bg.o a7.o bx.o bb.o);clear D aC)
        |(go_at_call 26;(with_reducible refine C2.o.mono ?_);rintro e w3 ⟨v3,rfl,aN,I⟩;have T2:_/\_/\_/\_:=zS (I.cell T1.1) (zS (I.cell T1.2.1) (zS (I.cell T1.2.2.1) (I.cell T1.2.2.2)));have a6:=Z_ (ai.o.trans I);have bA:=Z_ (aN.to (uN _ _) (Rz ai.o I));clear I aN))
      go_wp2
      go_roundw
      case rel=>exact⟨j+1,xs ++ [(t.1*u.1,m)],n+1,by omega,by go_num,a6.o,Z_ (by rw[HN.o,xh]),bf,Z_ (by unfold Zr;rw[Nu];exact bA.o)⟩
      case measure=>simp only[intOf];omega
    ·obtain rfl:j=q.length:=by omega
     clear hx;go_wp2
     go_roundw
     case rel=>exact⟨k+1,xs,n,by omega,by go_num,HX.o,Z_ (by rw[HN.o,y8,yM]),Z,HO⟩
     case measure=>simp only[intOf];omega
  ·obtain rfl:k=p.length:=by omega
   have ba:=Z_ (HR.o.trans (Rw Z.o HN.o));clear hx;go_wp2
   all_goals
    go_ret2;rw[ba.o];exact⟨_,rfl,HO.o,HX.o⟩
end
section
open Go.RowKit
theorem z1w.form{S:Nat->Prop}{w:World}{v:Value}{zs:List (List RTerm)}(h:z1w S w v zs):∃a cap,v=.slice a zs.length cap:=by
 obtain⟨b,off,⟨a,cap,h1,_⟩,_⟩:=h;exact⟨a,cap,h1⟩
theorem z1w.ext{S:Nat->Prop}{w W:World}{v:Value}{zs:List (List RTerm)}(h:z1w S w v zs)(hx:Ext w W)(hS:∀k,S k->k<w.heap.size):z1w S W v zs:=h.to (uM hx hS) (λ _ h=>h)
theorem z1w.len_le{S:Nat->Prop}{w:World}{v:Value}{zs:List (List RTerm)}(h:z1w S w v zs):zs.length<=9223372036854775807:=by
 obtain⟨b,off,⟨a,cap,h1,h2,h3,_⟩,_⟩:=h;unfold maxLen at h3;omega
theorem z1w.cellAt{S:Nat->Prop}{w:World}{ts:List (List RTerm)}{a:Option Addr}{n cap k:Nat}{t:List RTerm}(h:z1w S w (.slice a n cap) ts)(ht:ts[k]? = some t) :
  ∃b off vp,a=some ⟨b,off,none⟩/\n=ts.length/\n<=cap/\cap<=9223372036854775807/\S b/\w.cell? ⟨b,off+k,none⟩=some vp/\z06 S w vp t:=by
 obtain⟨b,off,⟨a',y,K,J,D,X,O⟩,I⟩:=h;obtain⟨rfl,rfl,rfl⟩:a=a'/\n=ts.length/\cap=y:=by simpa using K
 have z:0<ts.length:=by have:=Zy ht;omega
 obtain⟨vp,U,Z⟩:=I k t ht;exact⟨b,off,vp,X z,rfl,J,D,O z,U,Z⟩
def US(l:List (List RTerm)):Prop:=∀p∈l,Yk p
end
section
open Go.RowKit
theorem Ho{S:Nat->Prop}(vp vq:Value)(p q:PZ)(w:World)(hS:∀k,S k->k<w.heap.size)(hp:RTs S w vp p)(hq:RTs S w vq q)(hmp:ZD p)(hmq:ZD q)(hszp:XN p)(hszq:XN q)(hsz:Ts p q) :
  Calls Tryz.prog 15 #[vp,vq] w λ e w'=>∃v',e=.returned v'/\RTs (ZG S w w') w' v' (PQ (ZI p q))/\Ext w w':=by
 have J:=Z_ (Kw vp vq p q w hS hp hq hmp hmq hszp hszq hsz);clear hp hq
 go_enter Tryz.func15,Tryz.ntmps15
 go_wp2_with fail;refine J.o.mono ?_;rintro e w1 ⟨v1,rfl,y,z⟩;have I:=Z_ z;have D:=Z_ y;clear z y;go_wp2
 all_goals
  go_ret;exact⟨_,rfl,D.o,I.o⟩
theorem Tl{p:PZ}(h:canP p):Zt (Z5 p)=p:=by
 unfold Zt;rw[if_pos (Xc h)];exact z53 p
theorem RTs.old{w:World}{S:Nat->Prop}{v:Value}{p:PZ}(h:RTs S w v p)(hS:∀k,S k->k<w.heap.size):RTs (Z2 w) w v p:=h.to (Kept.refl _ _) hS
abbrev ut:=@RTs.old
theorem z06.old{w:World}{S:Nat->Prop}{v:Value}{p:List RTerm}(h:z06 S w v p)(hS:∀k,S k->k<w.heap.size):z06 (Z2 w) w v p:=h.to (uN _ _) hS
theorem z1w.on{w W:World}{v:Value}{z:List (List RTerm)}(h:z1w (Z2 w) w v z)(hx:Ext w W):z1w (Z2 W) W v z:=h.to (uM hx (λ _ h=>h)) (Vw hx)
theorem z06.on{w W:World}{v:Value}{z:List RTerm}(h:z06 (Z2 w) w v z)(hx:Ext w W):z06 (Z2 W) W v z:=h.to (uM hx (λ _ h=>h)) (Vw hx)
theorem TT{p:PZ}(h:ZD p):∀t∈p,t.2.length<=1000000:=λ t ht=>zT (WR (h t ht)) (by omega)
end
section
open Go.RowKit
theorem FH{S:Nat->Prop}(vd:Value)(x:Int)(w:World)(hd:Digs S w vd (Z4 10 x.natAbs)) :
  Calls Tryz.prog 45 #[.agg #[.bool (decide (x<0)),vd]] w λ e w'=>e=.returned (.agg #[.bool (decide (-x<0)),vd])/\Ext w w':=by
 obtain⟨a,c,rfl⟩:=hd.form;have y:=Uz x.natAbs;obtain⟨n,X⟩:∃n,n=(Z4 10 x.natAbs).length:=⟨_,rfl⟩
 rw[<-X]at y⊢;have U:=hd.len_le;rw[<-X]at U;have D:decide (0<n)=decide (x≠0):=by rw[y,decide_eq_decide];omega
 have I:=Z_ D;clear hd X y D
 rcases(show x<0∨x=0∨0<x by omega) with J|J|J
 ·have z:decide (x<0)=true:=decide_eq_true J;have O:Hd (decide (-x<0)=false):=Z_ (decide_eq_false (by omega));rw[z];clear J z U
  go_enter Tryz.func45,Tryz.ntmps45
  go_wp2
  all_goals
   refine bodyPost_ret (by simp[results,Tryz.results45,go_sem];rfl) rfl ?_;exact⟨by rw[O.o],uO (uO (uP w) _) _⟩
 ·subst J;have K:n=0:=by have:=I.o;simpa using this
  subst K;have z:decide ((0:Int)<0)=false:=by decide
  have O:Hd (decide (-(0:Int)<0)=false):=Z_ (by decide);rw[z];clear z U
  go_enter Tryz.func45,Tryz.ntmps45
  go_wp2
  all_goals
   refine bodyPost_ret (by simp[results,Tryz.results45,go_sem];rfl) rfl ?_;exact⟨by rw[O.o],uO (uO (uP w) _) _⟩
 ·have z:decide (x<0)=false:=decide_eq_false (by omega);have O:Hd (decide (-x<0)=true):=Z_ (decide_eq_true (by omega))
  have K:0<n:=by
   have:=I.o;rw[decide_eq_decide]at this;exact this.2 (by omega)
  rw[z];clear J z
  go_enter Tryz.func45,Tryz.ntmps45
  go_wp2
  all_goals
   refine bodyPost_ret (by simp[results,Tryz.results45,go_sem];rfl) rfl ?_;exact⟨by rw[O.o],uO (uO (uP w) _) _⟩
def ZP(p:PZ):PZ:=p.map λ t=>(-t.1,t.2)
theorem DO{p:PZ}{k:Nat}{t:Int×Z7}(h:p[k]? = some t):ZP (p.take (k+1))=ZP (p.take k) ++ [(-t.1,t.2)]:=by
 rw[zv,h];unfold ZP;rw[xl];rfl
theorem V4(p:PZ):(ZP p).length=p.length:=by unfold ZP;rw[zE]
theorem Dr{p:PZ}(h:ZD p):ZD (ZP p):=λ t ht=>by
 obtain⟨u,hu,rfl⟩:=zG.1 ht;exact h u hu
theorem Ku{x:Int}(h:XZ x):XZ (-x):=by unfold XZ;rw[xv];exact h
theorem G0{p:PZ}(h:XN p):XN (ZP p):=⟨by rw[V4];exact h.1,λ t ht=>by
 obtain⟨u,hu,rfl⟩:=zG.1 ht
 exact Ku (h.2 u hu)⟩
theorem KO{S:Nat->Prop}(v:Value)(p:PZ)(w:World)(h:RTs S w v p)(hS:∀k,S k->k<w.heap.size)(hsz:XN p) :
  Calls Tryz.prog 24 #[v] w λ e w'=>∃v',e=.returned v'/\RTs (ZG S w w') w' v' (ZP p)/\Ext w w':=by
 obtain⟨j0,hj,aA,az,aj⟩:=info_parts uy;have hl:=h.len_le;have H:=Z_ h;have ag:=Z_ hsz;obtain⟨a,cap,rfl⟩:=h.form;clear h hsz
 go_enter Tryz.func24,Tryz.ntmps24
 go_wp2
 go_loopw [3,4] (λ o i wr=>∃k xs,k<=p.length/\i=.int .i64 (k:Nat)/\Ext w wr/\Hd (wr.ownsRow w.heap.size 98 3 o k xs)/\Hd (z21 S w xs (ZP (p.take k)))) (λ _ i _=>p.length-(intOf i).toNat)
 case atStart=>exact⟨0,[],zL _,rfl,uP _,Z_ (World.ownsRow_nil _ _ _ _),Z_ rfl⟩
 case round=>
  obtain⟨k,xs,hk,rfl,hx,HW,ai⟩:=hrel;have HX:=Z_ hx
  by_cases ax:k<p.length
  ·obtain⟨t,ht⟩:=ZN ax;obtain⟨b,off,vd,vo,rfl,-,hn1,hm1,hSb,h1,h2,h3,h4,h5⟩:=H.o.cellAt ht;have HT:=Z_ (DO ht);have H4:=Z_ h4;have H5:=Z_ h5;obtain⟨I,K,rfl⟩:=h4.form;obtain⟨ao,U,rfl⟩:=h5.form;have x0:Ext w wr.drew:=hx.drew;have aq:=Z_ x0;have h0:_/\_/\_:=zS h1 (zS h2 h3);have c1:=λ(W:World) (hW:Ext w W)=>FH (S:=S) (.slice I (Z4 10 t.1.natAbs).length K) t.1 W (H4.o.ext hW hS);obtain⟨bt,Z⟩:∃b,b=decide (t.1<0):=⟨_,rfl⟩
   obtain⟨bn,O⟩:∃b,b=decide (-t.1<0):=⟨_,rfl⟩
   obtain⟨nt,D⟩:∃n,n=(Z4 10 t.1.natAbs).length:=⟨_,rfl⟩
   obtain⟨nm,aa⟩:∃n,n=t.2.length:=⟨_,rfl⟩
   have av:=Z_ O;rw[<-Z,<-D,<-aa]at h0;rw[<-Z,<-D,<-O]at c1;rw[<-aa]at H5;rw[<-D]at H4;have S0:_/\_/\_:=zS (x0.cell h0.1) (zS (x0.cell h0.2.1) (x0.cell h0.2.2));have C1:=Z_ (c1 wr.drew x0);have ay:Hd (k+1<=maxLen):=Z_ (by have:=ag.o.1;unfold maxLen;omega);have ar:Hd ((k+1)*56<=140737488355328):=Z_ (by have:=ag.o.1;omega);have al:=Z_ (Zp HW.o ((uP wr).drew));have ac:=Z_ h0;clear ht h0 h1 h2 h3 h4 h5 hx x0 c1 Z D aa O;go_wp2
   go_region_held3 (λ W=>W.cell? ⟨b,off+k*3,none⟩=some (.bool bt)/\W.cell? ⟨b,off+k*3+1,none⟩=some (.slice I nt K)/\W.cell? ⟨b,off+k*3+2,none⟩=some (.slice ao nm U)) (first|exact S0|exact S1|exact⟨Z1 _ S1.1,Z1 _ S1.2.1,Z1 _ S1.2.2⟩|exact S5)
    (first
     |(go_at_call 45;(with_reducible refine C1.o.mono ?_);rintro e w1 ⟨rfl,y⟩;have ae:=Z_ (aq.o.trans y);have S1:_/\_/\_:=zS (y.cell S0.1) (zS (y.cell S0.2.1) (y.cell S0.2.2));have ah:=Z_ (Zp (Zp al.o y) (uO (uP w1) (.cells #[.bool bn,.slice I nt K,.slice ao nm U] 98)));have X:=Z_ (Wj w1 #[.bool bn,.slice I nt K,.slice ao nm U] 98 (Xn rfl rfl rfl) (size:=3) rfl);have ap:=Z_ (ae.o.alloc (.cells #[.bool bn,.slice I nt K,.slice ao nm U] 98)).size;clear y)
     |(refine XE rfl (.tmp 11) (.tmp 24) 58 rfl w.heap.size 98 j0 (.agg #[.bool false,.slice none 0 0,.slice none 0 0]) 3 56 Tryz.underlying58 hj aA az aj rfl (yC _) _ k xs rfl ah.o (some ⟨w1.heap.size,0,none⟩) 1 1 _ rfl X.o ay.o ar.o ap.o ?_;intro v5 w5 J hg au;have aB:=Z_ J;have z:=Z_ (XH (ae.o.alloc (.cells #[.bool bn,.slice I nt K,.slice ao nm U] 98)) ah.o hg);have S5:_/\_/\_:=zS (z.o.cell ac.o.1) (zS (z.o.cell ac.o.2.1) (z.o.cell ac.o.2.2));clear J hg au))
   all_goals
    go_wp2
    go_roundw
    case rel=>
     refine⟨k+1,xs++(#[.bool bn,.slice I nt K,.slice ao nm U]:Array Value).toList,by omega,by go_num,z.o,aB,Z_ ?_⟩;rw[HT.o]
     have af:z21 S w (#[.bool bn,.slice I nt K,.slice ao nm U]:Array Value).toList [(-t.1,t.2)]:=by
      rw[av.o];exact z21.single (t:=(-t.1,t.2)) (by rw[xv];exact H4.o) H5.o
     exact ai.o.append af
    case measure=>simp only[intOf];omega
  ·obtain rfl:k=p.length:=by omega
   have HE:Hd (p.take p.length=p):=Z_ yW;clear hx;go_wp2
   all_goals
    go_ret;refine⟨_,rfl,?_,HX.o⟩;have hc:=ai.o;rw[HE.o]at hc;exact K_ (by rw[V4];exact HW.o) (hc.to (uM HX.o hS) (λ _ h=>.inl h)) (λ k h1 h2=>.inr ⟨h1,h2⟩)
theorem TF{S:Nat->Prop}(vp vq:Value)(p q:PZ)(w:World)(hS:∀k,S k->k<w.heap.size)(hp:RTs S w vp p)(hq:RTs S w vq q)(hmp:ZD p)(hmq:ZD q)(hszq:XN q)(hsz:∀k,k<=q.length->XN (addP p ((ZP q).take k))) :
  Calls Tryz.prog 11 #[vp,vq] w λ e w'=>∃v',e=.returned v'/\RTs (ZG S w w') w' v' (addP p (ZP q))/\Ext w w':=by
 have C1:=Z_ (KO vq q w hq hS hszq);have X:=Z_ (λ(K:Value) (w1:World) (y:Ext w w1) (h1:RTs (ZG S w w1) w1 K (ZP q))=>PF (S:=ZG S w w1) vp K p (ZP q) w1 (X_ hS y) ((hp.ext y hS).to (uN _ _) (λ _ h=>.inl h)) h1 hmp (Dr hmq) (G0 hszq) (λ k hk=>hsz k (by rw[V4]at hk;exact hk)));clear hp hq hmp hmq hszq hsz
 go_enter Tryz.func11,Tryz.ntmps11
 go_wp2_with fail;refine C1.o.mono ?_;rintro e w1 ⟨K,rfl,z,y⟩;have J:=Z_ y;have HP1:=Z_ z;have Z:=Z_ (X.o K w1 y z);clear y z X;go_wp2_with fail;refine Z.o.mono ?_;rintro e w2 ⟨v2,rfl,I,D⟩;have O:=Z_ (J.o.trans D);have U:=Z_ (I.to (uN _ _) (Rz J.o D));clear D I;go_wp2
 all_goals
  go_ret;exact⟨_,rfl,U.o,O.o⟩
end
end Go.Proofs.YtlbohjnfkhemlaaGreat
