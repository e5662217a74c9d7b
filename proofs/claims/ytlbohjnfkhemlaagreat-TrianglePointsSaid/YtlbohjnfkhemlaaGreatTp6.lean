/- Coefficients, initial, tail and derivative of polynomials. -/
import Derived.Test.YtlbohjnfkhemlaaGreatProg
import Derived.Shelf.SlSortFuncK.RowK2
import Derived.Shelf.SlicesQ.Reverse
import Derived.Deep.DeepCutAuto
import Derived.Test.YtlbohjnfkhemlaaGreatTp5
set_option maxRecDepth 100000
set_option maxHeartbeats 16000000
namespace Go.Proofs.YtlbohjnfkhemlaaGreat
section
theorem z24(m:Z7)(v u:Int):ex (Y3 m v) u=if u=v then 0 else ex m u:=by
 unfold Y3
 induction m with
 |nil=>simp[ex]
 |cons x r ih=>
  by_cases z:x.1=v
  ·rw[xM (by simpa using z),ih]
   by_cases y:u=v
   ·rw[if_pos y,if_pos y]
   ·rw[if_neg y,if_neg y,ex,if_neg (by omega)]
  ·rw[xg (by simpa using z)];simp only[ex,ih]
   by_cases y:u=v
   ·subst y;simp[z]
   ·simp[y]
theorem ON{l k:Int}{m:Z7}(h:z0d l m=true)(hk:k<=l):z0d k m=true:=by
 cases m with
 |nil=>rfl
 |cons x r=>
  simp only[z0d,zK,decide_eq_true_eq]at h⊢;exact⟨by omega,h.2⟩
theorem FD{l:Int}{m:Z7}(h:z0d l m=true)(v:Int):z0d l (Y3 m v)=true:=by
 unfold Y3
 induction m generalizing l with
 |nil=>rfl
 |cons x r ih=>
  simp only[z0d,zK,decide_eq_true_eq]at h
  by_cases y:x.1=v
  ·rw[xM (by simpa using y)];exact ON (ih h.2) (by omega)
  ·rw[xg (by simpa using y)];simp only[z0d,zK,decide_eq_true_eq];exact⟨by omega,ih h.2⟩
theorem U0{m:Z7}(h:Z3 m=true)(v:Int):Z3 (Y3 m v)=true:=FD h v
theorem Ve{m:Z7}(h:Z3 m=true)(v:Int):0<=ex m v:=(X6 h v).1
theorem NY{a b:Z7}(ha:Z3 a=true)(hb:Z3 b=true)(h:∀v,ex a v=ex b v):a=b:=Oo ha hb h
theorem J1{f g:Int->Int}{n:Nat}:cmpE f g n=1↔∃k:Nat,1<=k/\k<=n/\g (k:Nat)<f (k:Nat)/\∀j:Nat,k<j->j<=n->f (j:Nat)=g (j:Nat):=by
 induction n with
 |zero=>
  simp only[cmpE]
  constructor
  ·intro h;omega
  ·rintro⟨k,y,J,-⟩;omega
 |succ n ih=>
  simp only[cmpE]
  by_cases h:f ((n+1:Nat):Int)=g ((n+1:Nat):Int)
  ·rw[if_pos h,ih]
   constructor
   ·rintro⟨k,y,J,z,D⟩;refine⟨k,y,by omega,z,λ j h5 h6=>?_⟩
    by_cases K:j=n+1
    ·subst K;exact h
    ·exact D j h5 (by omega)
   ·rintro⟨k,y,J,z,D⟩
    by_cases I:k=n+1
    ·subst I;omega
    ·exact⟨k,y,by omega,z,λ j h5 h6=>D j h5 (by omega)⟩
  ·rw[if_neg h,Wi]
   constructor
   ·intro y;exact⟨n+1,by omega,zR _,y,λ j h5 h6=>by omega⟩
   ·rintro⟨k,y,J,z,D⟩
    by_cases I:k=n+1
    ·subst I;exact z
    ·exact absurd (D (n+1) (by omega) (zR _)) h
theorem To{a b:Z7}(ha:Z3 a=true)(hb:Z3 b=true):Zs a b=1↔∃u:Int,ex b u<ex a u/\∀j,u<j->ex a j=ex b j:=by
 rw[V_ ha hb,J1]
 constructor
 ·rintro⟨k,z,D,I,J⟩;refine⟨(k:Int),I,λ j hj=>?_⟩
  by_cases y:200<j
  ·rw[Vg ha y,Vg hb y]
  ·have:=J j.toNat (by omega) (by omega)
   rwa [wP (by omega)]at this
 ·rintro⟨u,z,D⟩;have hu1:¬ u<=0:=λ h=>by rw[Ye ha h,Ye hb h]at z;omega
  have hu2:¬ 200<u:=λ h=>by rw[Vg ha h,Vg hb h]at z;omega
  refine⟨u.toNat,by omega,by omega,?_,λ j h5 h6=>D _ (by omega)⟩;rw[wP (by omega)];exact z
theorem JF{p:PZ}(h:canP p)(f:Int×Z7->Option (Int×Z7))(h1:∀t∈p,∀u,f t=some u->u.1≠0/\Z3 u.2=true)
  (h2:∀t∈p,∀t'∈p,Zs t.2 t'.2=1->∀u,f t=some u->∀u',f t'=some u'->Zs u.2 u'.2=1):canP (p.filterMap f):=by
 refine⟨λ u hu=>?_,?_⟩
 ·obtain⟨t,I,e⟩:=wD.1 hu;exact h1 t I u e
 ·have z:p.Pairwise (λ a b=>a∈p/\b∈p/\Zs a.2 b.2=1):=by
   refine List.Pairwise.imp_of_mem ?_ h.2;intro a b y hb D;exact⟨y,hb,D⟩
  exact z.filterMap f (λ a a' g b hb b' hb'=>h2 a g.1 a' g.2.1 g.2.2 b hb b' hb')
theorem DU{a b:Z7}(ha:Z3 a=true)(hb:Z3 b=true){v:Int}(he:ex a v=ex b v)(h:Zs a b=1):Zs (Y3 a v) (Y3 b v)=1:=by
 obtain⟨u,D,z⟩:=(To ha hb).1 h
 refine(To (U0 ha v) (U0 hb v)).2 ⟨u,?_,λ j hj=>?_⟩
 ·rw[z24,z24]
  by_cases y:u=v
  ·subst y;omega
  ·rw[if_neg y,if_neg y];exact D
 ·rw[z24,z24,z j hj]
def WB(v e:Int)(t:Int×Z7):Option (Int×Z7):=if ex t.2 v=e then some (t.1,Y3 t.2 v) else none
def YM(p:PZ)(v e:Int):PZ:=p.filterMap (WB v e)
def Y_(p:PZ):PZ:=if ZL p=0 then p else YM p (ZL p) (degP p (ZL p))
theorem XA{p:PZ}(h:canP p)(v e:Int):canP (YM p v e):=by
 refine JF h _ (λ t ht u hu=>?_) (λ t ht t' ht' hc u hu u' hu'=>?_)
 ·unfold WB at hu
  split at hu
  ·cases hu;exact⟨(h.1 t ht).1,U0 (h.1 t ht).2 v⟩
  ·cases hu
 ·unfold WB at hu hu'
  split at hu
  ·split at hu'
   ·rename_i e1 e2
    cases hu;cases hu'
    exact DU (h.1 t ht).2 (h.1 t' ht').2 (by omega) hc
   ·cases hu'
  ·cases hu
theorem H9{p q:PZ}(h:canP p)(hs:q.Sublist p):canP q:=⟨λ t ht=>h.1 t (hs.mem ht),h.2.sublist hs⟩
theorem Iz{p:PZ}(h:canP p):canP (Y_ p):=by
 unfold Y_
 split
 ·exact h
 ·exact XA h _ _
theorem MX{p:PZ}(h:canP p){t:Int×Z7}(ht:t∈p){u:Int}(hu:ZL p<u):ex t.2 u=0:=by
 have h1:=VK h
 have h2:z1l t.2<=ZL p:=by
  rw[<-Gs h];exact Qd (λ t:Int×Z7=>z1l t.2) p 0 t ht
 exact SD (h.1 t ht).2 (by omega) (by omega)
theorem UM{p:PZ}{v d:Int}(hd:0<=d)(h:∀t∈p,ex t.2 v<=d):degP p v<=d:=QQ _ _ _ _ hd h
theorem Ms{p:PZ}{v d:Int}(hd:0<d)(h:∀t∈p,ex t.2 v<d):degP p v<d:=by
 have:=UM (p:=p) (v:=v) (d:=d-1) (by omega) (λ t ht=>by have:=h t ht;omega);omega
theorem N0{p:PZ}{v:Int}(h:∀t∈p,ex t.2 v=0):degP p v=0:=vV (UM (yi _) (λ t ht=>by rw[h t ht];exact yi _)) (PT _ _ _)
theorem J5{p:PZ}{v:Int}(h:0<degP p v):∃t∈p,ex t.2 v=degP p v:=by
 by_cases y:∃t∈p,ex t.2 v=degP p v
 ·exact y
 ·have:degP p v<degP p v:=Ms h (λ t ht=>by
   have z:=WZ ht v
   rcases wX (ex t.2 v) (degP p v) with g|g
   ·exact g
   ·exact absurd ⟨t,ht,vV z g⟩ y)
  omega
theorem PS{p:PZ}(h:canP p)(hl:0<ZL p):0<degP p (ZL p):=by
 cases p with
 |nil=>simp[ZL]at hl
 |cons t r=>
  have y:0<z1l t.2:=hl;have z:t.2≠[]:=λ e=>by rw[e]at y;simp[z1l]at y
  have h2:=(Vz (h.1 t (by simp)).2 z).2.2;have h3:=WZ (p:=t :: r) (t:=t) (by simp) (z1l t.2);show 0<degP (t :: r) (z1l t.2);omega
theorem Uc{p:PZ}{v e:Int}{u:Int×Z7}(h:u∈YM p v e):∃t∈p,ex t.2 v=e/\u=(t.1,Y3 t.2 v):=by
 obtain⟨t,ht,e1⟩:=wD.1 h;unfold WB at e1
 split at e1
 ·rename_i h1
  cases e1;exact⟨t,ht,h1,rfl⟩
 ·cases e1
theorem Tb{p:PZ}{v e:Int}{u:Int×Z7}(h:u∈YM p v e):ex u.2 v=0:=by
 obtain⟨t,-,-,rfl⟩:=Uc h;rw[z24,if_pos rfl]
end
section
def lk:List (Int×Int×Int)->Int->Int×Int
 | [],_=>(0,0)
 |t :: r,v=>if t.1=v then t.2 else lk r v
def WH(last:Int):List (Int×Int×Int)->Prop
 | []=>True
 |t :: r=>last<t.1/\t.1<=200/\WH t.1 r
theorem Jg{last:Int}{l:List (Int×Int×Int)}(h:WH last l){u:Int}(hu:u<=last):lk l u=(0,0):=by
 induction l generalizing last with
 |nil=>rfl
 |cons t r ih=>
  obtain⟨h1,h2,h3⟩:=h;rw[lk,if_neg (by omega)];exact ih h3 (by omega)
theorem Uk{last:Int}{a b:Z7}(ha:z0d last a=true)(hb:z0d last b=true):WH last (both a b)/\∀u,lk (both a b) u=(ex a u,ex b u):=by
 generalize hn:a.length+b.length=n
 induction n using Nat.strongRecOn generalizing a b last with
 |ind n ih=>
 cases a with
 |nil=>
  cases b with
  |nil=>rw[z9v];exact⟨trivial,λ u=>rfl⟩
  |cons y b=>
   have U:=hb;simp only[z0d,zK,decide_eq_true_eq]at hb;simp only[zM,zo]at hn;obtain⟨I,D⟩:=ih (0+b.length) (by omega) (a:=[]) (b:=b) (last:=y.1) rfl hb.2 (by simp);rw[z8n];refine⟨⟨hb.1.1,hb.1.2.1,I⟩,λ u=>?_⟩;rw[lk,D,ex];simp only[ex]
   split<;>rfl
 |cons x a=>
  cases b with
  |nil=>
   have X:=ha;simp only[z0d,zK,decide_eq_true_eq]at ha;simp only[zM,zo]at hn;obtain⟨I,D⟩:=ih (a.length+0) (by omega) (a:=a) (b:=[]) (last:=x.1) ha.2 rfl (by simp);rw[z7s];refine⟨⟨ha.1.1,ha.1.2.1,I⟩,λ u=>?_⟩;rw[lk,D];simp only[ex]
   split<;>rfl
  |cons y b=>
   have X:=ha;have U:=hb;simp only[z0d,zK,decide_eq_true_eq]at ha hb;simp only[zM]at hn;rw[Sf]
   split
   ·rename_i hlt
    have J:z0d x.1 (y :: b)=true:=by simp only[z0d,zK,decide_eq_true_eq];exact⟨⟨hlt,hb.1.2⟩,hb.2⟩
    obtain⟨I,D⟩:=ih (a.length+(b.length+1)) (by omega) (a:=a) (b:=y :: b) (last:=x.1) ha.2 J (by simp);refine⟨⟨ha.1.1,ha.1.2.1,I⟩,λ u=>?_⟩;rw[lk,D]
    by_cases z:x.1=u
    ·rw[if_pos z,<-z,Ye J (yi _),ex,if_pos rfl]
    ·rw[if_neg z];conv=>rhs;rw[ex,if_neg z]
   ·split
    ·rename_i hnlt hlt
     have K:z0d y.1 (x :: a)=true:=by simp only[z0d,zK,decide_eq_true_eq];exact⟨⟨hlt,ha.1.2⟩,ha.2⟩
     obtain⟨I,D⟩:=ih (a.length+1+b.length) (by omega) (a:=x :: a) (b:=b) (last:=y.1) K hb.2 (by simp);refine⟨⟨hb.1.1,hb.1.2.1,I⟩,λ u=>?_⟩;rw[lk,D]
     by_cases z:y.1=u
     ·rw[if_pos z,<-z,Ye K (yi _),ex,if_pos rfl]
     ·rw[if_neg z,show ex (y :: b) u=ex b u by rw[ex,if_neg z]]
    ·rename_i h3 h4
     have O:x.1=y.1:=by omega
     rw[<-O]at hb;obtain⟨I,D⟩:=ih (a.length+b.length) (by omega) (a:=a) (b:=b) (last:=x.1) ha.2 hb.2 (by simp);refine⟨⟨ha.1.1,ha.1.2.1,I⟩,λ u=>?_⟩;rw[lk,D]
     by_cases z:x.1=u
     ·rw[if_pos z,ex,if_pos z,ex,if_pos (by omega)]
     ·rw[if_neg z,show ex (y :: b) u=ex b u by rw[ex,if_neg (by omega)],show ex (x :: a) u=ex a u by rw[ex,if_neg z]]
theorem Ow{f:Int->Int->Int}(h0:f 0 0<=0){last:Int}{l:List (Int×Int×Int)}(h:WH last l)(u:Int):ex (z3m f l) u=if 0<f (lk l u).1 (lk l u).2 then f (lk l u).1 (lk l u).2 else 0:=by
 induction l generalizing last with
 |nil=>
  rw[z3m,ex,lk,if_neg (show ¬ 0<f 0 0 by omega)]
 |cons t r ih=>
  obtain⟨h1,h2,z⟩:=h;rw[z3m,lk]
  by_cases D:t.1=u
  ·rw[if_pos D]
   by_cases y:0<f t.2.1 t.2.2
   ·rw[if_pos y,if_pos y,ex,if_pos D]
   ·rw[if_neg y,if_neg y,ih z,Jg z (by omega),if_neg (show ¬ 0<f 0 0 by omega)]
  ·rw[if_neg D]
   by_cases y:0<f t.2.1 t.2.2
   ·rw[if_pos y,ex,if_neg D,ih z]
   ·rw[if_neg y,ih z]
theorem DH{f:Int->Int->Int}{last:Int}{l:List (Int×Int×Int)}(h:WH last l)(hf:∀t∈l,f t.2.1 t.2.2<=10000):z0d last (z3m f l)=true:=by
 induction l generalizing last with
 |nil=>rfl
 |cons t r ih=>
  obtain⟨h1,h2,z⟩:=h;have y:=ih z (λ u hu=>hf u (by simp[hu]));rw[z3m]
  split
  ·rename_i h4
   have:=hf t (by simp);simp only[z0d,zK,decide_eq_true_eq];exact⟨by omega,y⟩
  ·exact ON y (by omega)
theorem S6{last:Int}{l:List (Int×Int×Int)}(h:WH last l){t:Int×Int×Int}(ht:t∈l):lk l t.1=t.2:=by
 induction l generalizing last with
 |nil=>simp at ht
 |cons x r ih=>
  obtain⟨h1,h2,z⟩:=h;rw[lk]
  rcases zJ.1 ht with rfl|ht
  ·rw[if_pos rfl]
  ·by_cases e:x.1=t.1
   ·exfalso
    have:∀(l:List (Int×Int×Int)) (k:Int),WH k l->∀t∈l,k<t.1:=by
     intro l
     induction l with
     |nil=>intro k _ t ht;simp at ht
     |cons y s ih=>
      intro k D t ht;obtain⟨I,g2,J⟩:=D
      rcases zJ.1 ht with rfl|ht
      ·exact I
      ·have:=ih _ J t ht;omega
    have:=this r x.1 z t ht;omega
   ·rw[if_neg e];exact ih z ht
theorem Ji{f:Int->Int->Int}(h0:f 0 0<=0){a b:Z7}(ha:Z3 a=true)(hb:Z3 b=true)(u:Int):ex (z3m f (both a b)) u=if 0<f (ex a u) (ex b u) then f (ex a u) (ex b u) else 0:=by
 obtain⟨h1,h2⟩:=Uk ha hb;rw[Ow h0 h1,h2]
theorem FU{f:Int->Int->Int}{a b:Z7}(ha:Z3 a=true)(hb:Z3 b=true)(hf:∀u,f (ex a u) (ex b u)<=10000):Z3 (z3m f (both a b))=true:=by
 obtain⟨h1,h2⟩:=Uk ha hb;refine DH h1 (λ t ht=>?_);have:=S6 h1 ht;rw[h2]at this;have h3:=hf t.1;rw[<-this];exact h3
theorem XB{a b:Z7}(ha:Z3 a=true)(hb:Z3 b=true)(u:Int):ex (ZE a b) u=ex a u+ex b u:=by
 unfold ZE;rw[Ji (by simp) ha hb];have h1:=Ve ha u;have h2:=Ve hb u
 split<;>omega
theorem SJ{a b:Z7}(ha:Z3 a=true)(hb:Z3 b=true):Z3 (ZE a b)=true↔∀u,ex a u+ex b u<=10000:=by
 constructor
 ·intro h u;rw[<-XB ha hb];exact(X6 h u).2
 ·intro h;exact FU ha hb h
theorem OA{v e:Int}(hv:1<=v/\v<=200)(he:1<=e/\e<=10000):Z3 [(v,e)]=true:=by
 unfold Z3 z0d;simp only[z0d,Bool.and_true,decide_eq_true_eq];omega
theorem zez(v e u:Int):ex [(v,e)] u=if v=u then e else 0:=by simp[ex]
end
section
theorem Ix{m:Z7}{v:Int}(h:∀x∈m,x.1<v)(e u:Int):ex (m ++ [(v,e)]) u=if u=v then e else ex m u:=by
 induction m with
 |nil=>
  simp only[yL,ex]
  by_cases z:v=u
  ·rw[if_pos z,if_pos z.symm]
  ·rw[if_neg z,if_neg (λ k=>z k.symm)]
 |cons x r ih=>
  have h1:=h x (by simp);simp only[zc,ex,ih (λ y hy=>h y (by simp[hy]))]
  by_cases D:x.1=u
  ·rw[if_pos D,if_pos D,if_neg (by omega)]
  ·rw[if_neg D,if_neg D]
theorem Jp(f:Nat->Int)(n:Nat)(u:Nat)(h0:∀j,0<=f j):ex (ofE f n) (u:Int)=if 1<=u/\u<=n then f u else 0:=by
 induction n with
 |zero=>
  simp only[ofE,ex];rw[if_neg (by omega)]
 |succ n ih=>
  simp only[ofE]
  by_cases D:0<f (n+1)
  ·rw[if_pos D,Ix (λ x hx=>by have:=OX f n x hx;omega),ih]
   by_cases z:u=n+1
   ·subst z;rw[if_pos rfl,if_pos (by omega)]
   ·rw[if_neg (by omega)]
    by_cases y:1<=u/\u<=n
    ·rw[if_pos y,if_pos (by omega)]
    ·rw[if_neg y,if_neg (by omega)]
  ·rw[if_neg D,ih];have:=h0 (n+1)
   by_cases z:u=n+1
   ·subst z;rw[if_neg (by omega),if_pos (by omega)];omega
   ·by_cases y:1<=u/\u<=n
    ·rw[if_pos y,if_pos (by omega)]
    ·rw[if_neg y,if_neg (by omega)]
theorem Ls{a b:Z7}(ha:Z3 a=true)(hb:Z3 b=true):XD a b=if Z3 (ZE a b)=true then some (ZE a b) else none:=by
 unfold XD
 have J:∀j,0<=YS a b j:=λ j=>by
  have D:=Ve ha (j:Int);have y:=Ve hb (j:Int);unfold YS;omega
 cases hov:z7b (YS a b) 200 with
 |true=>
  rw[if_pos rfl,if_neg];intro I;have D:=(SJ ha hb).1 I
  have y:∀n,z7b (YS a b) n=false:=λ n=>by
   induction n with
   |zero=>rfl
   |succ n ih=>
    simp only[z7b,ih,vF,decide_eq_false_iff_not];have:=D ((n+1:Nat):Int);unfold YS;omega
  rw[y]at hov
  cases hov
 |false=>
  have D:=Lm hov
  have I:Z3 (ZE a b)=true:=(SJ ha hb).2 (λ u=>by
   by_cases y:u<1
   ·rw[Ye ha (by omega),Ye hb (by omega)];omega
   ·by_cases z:200<u
    ·rw[Vg ha z,Vg hb z];omega
    ·have:=D u.toNat (by omega) (by omega);unfold YS at this
     rwa [wP (by omega)]at this)
  rw[if_neg (by simp),if_pos I];refine congrArg some ?_;refine Ld (NQ (zR _) (λ j y z=>D j y z)) I (λ k y z=>?_);rw[Jp _ _ _ J,if_pos ⟨y,z⟩,XB ha hb];rfl
theorem Qv{t u:Int×Z7}(ht:Z3 t.2=true)(hu:Z3 u.2=true)(h:Z3 (ZE t.2 u.2)=true):Xa t u=some (t.1*u.1,ZE t.2 u.2):=by
 unfold Xa;rw[Ls ht hu,if_pos h];rfl
theorem QR{t u:Int×Z7}(ht:Z3 t.2=true)(hu:Z3 u.2=true)(h:Z3 (ZE t.2 u.2)=false):Xa t u=none:=by
 unfold Xa;rw[Ls ht hu,if_neg (by rw[h];exact wE)];rfl
end
section
open Go.RowKit
end
section
open Go.RowKit
section
variable {P:Program}
end
end
section
section
variable {α:Type} {le:α->α->Bool}
structure TotalLe (le:α->α->Bool):Prop where
 trans:∀a b c,le a b=true->le b c=true->le a c=true
 total:∀a b,le a b=true∨le b a=true
theorem TotalLe.not{x y:α}(h:TotalLe le)(hn:le x y=false):le y x=true:=by
 rcases h.total x y with h|h
 ·rw[hn]at h;cases h
 ·exact h
theorem TotalLe.not_of(h:TotalLe le){x y z:α}(h1:le x y=false)(h2:le x z=true):le z y=false:=by
 cases h3:le z y with
 |false=>rfl
 |true=>
  have:=h.trans _ _ _ h2 h3;rw[h1]at this;cases this
theorem TotalLe.not_of'(h:TotalLe le){x y z:α}(h1:le x y=false)(h2:le z y=true):le x z=false:=by
 cases h3:le x z with
 |false=>rfl
 |true=>
  have:=h.trans _ _ _ h3 h2;rw[h1]at this;cases this
abbrev ZH(le:α->α->Bool)(xs ys:List α):List α:=List.merge xs ys le
theorem z0n(ys:List α):ZH le [] ys=ys:=List.nil_merge ys
theorem z0e(xs:List α):ZH le xs []=xs:=List.merge_right xs
theorem WJ{x y:α}(xs ys:List α)(h:le x y=true):ZH le (x :: xs) (y :: ys)=x :: ZH le xs (y :: ys):=List.cons_merge_cons_pos le xs ys h
theorem Xd{x y:α}(xs ys:List α)(h:le x y=false):ZH le (x :: xs) (y :: ys)=y :: ZH le (x :: xs) ys:=by
 unfold ZH;rw[List.cons_merge_cons,if_neg (by rw[h];exact wE)]
theorem IF(xs ys:List α):(ZH le xs ys).Perm (xs++ys):=List.merge_perm_append le
def z1f(le:α->α->Bool)(l:List α):Prop:=l.Pairwise (λ a b=>le a b=true)
theorem z_(h:TotalLe le){xs ys:List α}(hx:z1f le xs)(hy:z1f le ys):z1f le (ZH le xs ys) :=
 List.pairwise_merge (λ a b c=>h.trans a b c) (λ a b=>by rcases h.total a b with h|h<;>simp[h]) _ _ hx hy
theorem Tx(A1 A2 B1 B2:List α)(h1:∀x∈A1,∀y∈B2,le x y=true)(h2:∀y∈B1,∀x∈A2,le x y=false) :
  ZH le (A1++A2) (B1++B2)=ZH le A1 B1++ZH le A2 B2:=by
 induction A1 generalizing B1 with
 |nil=>
  rw[z0n]
  induction B1 with
  |nil=>rfl
  |cons b B1 ih=>
   cases A2 with
   |nil=>simp
   |cons x A2=>
    have:=ih (λ y hy=>h2 y (by simp[hy]));simp only[yL,zc]at this⊢;rw[Xd _ _ (h2 b (by simp) x (by simp)),this]
 |cons a A1 ihA=>
  induction B1 with
  |nil=>
   rw[z0e]
   cases B2 with
   |nil=>simp
   |cons y B2=>
    have:=ihA [] (λ x hx=>h1 x (by simp[hx])) (λ y hy=>by simp at hy);rw[z0e]at this;simp only[yL,zc]at this⊢;rw[WJ _ _ (h1 a (by simp) y (by simp)),this]
  |cons b B1 ihB=>
   cases hab:le a b with
   |true=>
    have:=ihA (b :: B1) (λ x hx=>h1 x (by simp[hx])) h2;simp only[zc]at this⊢;rw[WJ _ _ hab,WJ _ _ hab,this];rfl
   |false=>
    have:=ihB (λ y hy=>h2 y (by simp[hy]));simp only[zc]at this⊢;rw[Xd _ _ hab,Xd _ _ hab,this];rfl
theorem FJ(h:TotalLe le)(A B C:List α):ZH le (ZH le A B) C=ZH le A (ZH le B C):=by
 generalize hn:A.length+B.length+C.length=n
 induction n using Nat.strongRecOn generalizing A B C with
 |ind n ih=>
  cases A with
  |nil=>rw[z0n,z0n]
  |cons a A=>
   cases B with
   |nil=>rw[z0n,z0e]
   |cons b B=>
    cases C with
    |nil=>rw[z0e,z0e]
    |cons c C=>
     simp only[zM]at hn
     cases hab:le a b with
     |true=>
      rw[WJ _ _ hab]
      cases z:le a c with
      |true=>
       rw[WJ _ _ z,ih _ (by simp only[zM];omega) A (b :: B) (c :: C) rfl]
       cases y:le b c with
       |true=>rw[WJ _ _ y,WJ _ _ hab]
       |false=>rw[Xd _ _ y,WJ _ _ z]
      |false=>
       have y:le b c=false:=h.not_of z hab;rw[Xd _ _ z,Xd _ _ y,Xd _ _ z,<-WJ _ _ hab,ih _ (by simp only[zM];omega) (a :: A) (b :: B) C rfl]
     |false=>
      rw[Xd _ _ hab]
      cases y:le b c with
      |true=>rw[WJ _ _ y,WJ _ _ y,Xd _ _ hab,ih _ (by simp only[zM];omega) (a :: A) B (c :: C) rfl]
      |false=>
       have z:le a c=false:=by
        cases h3:le a c with
        |false=>rfl
        |true=>
         have:=h.trans _ _ _ (h.not hab) h3;rw[y]at this;cases this
       rw[Xd _ _ y,Xd _ _ y,Xd _ _ z,<-Xd _ _ hab,ih _ (by simp only[zM];omega) (a :: A) (b :: B) C rfl]
def Y9(le:α->α->Bool):List α->List α
 | []=>[]
 |x :: xs=>ZH le [x] (Y9 le xs)
theorem Sl(h:TotalLe le)(A B:List α):Y9 le (A++B)=ZH le (Y9 le A) (Y9 le B):=by
 induction A with
 |nil=>exact(z0n _).symm
 |cons a A ih=>
  show ZH le [a] (Y9 le (A++B))=ZH le (ZH le [a] (Y9 le A)) (Y9 le B);rw[ih,FJ h]
theorem zd6(x:α):Y9 le [x]=[x]:=z0e [x]
theorem Lr(l:List α):(Y9 le l).Perm l:=by
 induction l with
 |nil=>exact List.Perm.refl _
 |cons x l ih=>exact(IF [x] _).trans (ih.cons x)
theorem z1g(l:List α):(Y9 le l).length=l.length:=(Lr l).length_eq
theorem TU(h:TotalLe le)(l:List α):z1f le (Y9 le l):=by
 induction l with
 |nil=>exact List.Pairwise.nil
 |cons x l ih=>exact z_ h (yP _ _) ih
theorem Rm{S1 S2:List α}{x:α}(h1:∀y∈S1,le y x=true)(h2:∀y∈S2,le y x=false):ZH le (S1++S2) [x]=S1++x :: S2:=by
 have e:=Tx (le:=le) S1 S2 [x] [] (λ _ _ y hy=>by simp at hy) (λ y hy z hz=>by rw[zQ.1 hy];exact h2 z hz);rw[yj,z0e]at e;rw[e];have D:=Tx (le:=le) S1 [] [] [x] (λ y hy z hz=>by rw[zQ.1 hz];exact h1 y hy) (λ y hy=>by simp at hy);rw[yj,yL,z0n,z0e]at D;rw[D];simp
theorem Jw{S1 S2:List α}{x:α}(h1:∀y∈S1,le x y=false)(h2:∀y∈S2,le x y=true):ZH le [x] (S1++S2)=S1++x :: S2:=by
 have e:=Tx (le:=le) [] [x] S1 S2 (λ y hy=>by simp at hy) (λ y hy z hz=>by rw[zQ.1 hz];exact h1 y hy);rw[yL,z0n]at e;rw[e];have D:=Tx (le:=le) [x] [] [] S2 (λ y hy z hz=>by rw[zQ.1 hy];exact h2 z hz) (λ y hy=>by simp at hy);rw[yj,yL,z0n,z0e]at D;rw[D];rfl
theorem z1f.last{A:List α}{x y:α}(h:TotalLe le)(hs:z1f le (A ++ [x]))(hxy:le x y=true):∀z∈A ++ [x],le z y=true:=by
 intro z hz;obtain⟨_,_,h3⟩:=ye.1 hs
 rcases zC.1 hz with hz|hz
 ·exact h.trans _ _ _ (h3 z hz x (by simp)) hxy
 ·rw[zQ.1 hz];exact hxy
end
end
section
open Go.RowKit Go.Sort
theorem My{w W W':World}{row:Option Nat}(h:w.grownBy W row)(hx:Ext W W'):w.grownBy W' row :=
 ⟨hx.os.trans h.os,hx.tape.trans h.tape,hx.output.trans h.output,zT h.size hx.size,λ i hi hne=>(hx.block i (zU hi h.size)).trans (h.block i hi hne)⟩
theorem Kc(w:World)(row:Option Nat):w.grownBy w row:=⟨rfl,rfl,rfl,zR _,λ _ _ _=>rfl⟩
theorem Cb{w W:World}{b o:Nat}(h:w.grownBy W (some b))(u:Value):w.grownBy (W.setCell ⟨b,o,none⟩ u) (some b) :=
 ⟨h.os,h.tape,h.output,by rw[z03];exact h.size,λ i hi hne=>(Below.heap_setCell _ _ _ _ (λ e=>hne (by rw[e]))).trans (h.block i hi hne)⟩
theorem LN{w:World}{b:Nat}(vs:List Value):∀(o:Nat) (W:World),w.grownBy W (some b)->w.grownBy (W.setCells b o vs) (some b):=by
 induction vs with
 |nil=>exact λ _ _ h=>h
 |cons v r ih=>exact λ o W h=>ih (o+1) _ (Cb h v)
theorem WL{α:Type}(A B:List α)(x:α):(A++x :: B)[A.length]? = some x:=by simp
theorem Vo{α:Type}[Inhabited α]{l:List α}{i:Nat}{x:α}(h:l[i]? = some x):l.toArray[i]! = x:=by simp[h]
theorem NZ{α:Type}[Inhabited α](A M B:List α)(x y:α):swp (A++x :: M++y :: B).toArray A.length (A.length+1+M.length)=(A++y :: M++x :: B).toArray:=by
 have z:(A++x :: M++y :: B)[A.length]? = some x:=by simp
 have D:(A++x :: M++y :: B)[A.length+1+M.length]? = some y:=by
  rw[yI (by simp;omega)];simp[show A.length+1+M.length-(A.length+(M.length+1))=0 by omega]
 unfold swp;rw[Vo z,Vo D];rw[xF,xF]
 congr 1
 rw[show(A++x :: M++y :: B).set A.length y=A++y :: M++y :: B by rw[zB,wW _ _ (zR _)];simp];rw[wW _ _ (by simp;omega)];simp[show A.length+1+M.length-(A.length+(M.length+1))=0 by omega]
theorem Oc{α:Type}[Inhabited α](A M B:List α)(x y:α):swp (A++x :: M++y :: B).toArray (A.length+1+M.length) A.length=(A++y :: M++x :: B).toArray:=by
 have z:(A++x :: M++y :: B)[A.length]? = some x:=by simp
 have D:(A++x :: M++y :: B)[A.length+1+M.length]? = some y:=by
  rw[yI (by simp;omega)];simp[show A.length+1+M.length-(A.length+(M.length+1))=0 by omega]
 unfold swp;rw[Vo z,Vo D];rw[xF,xF]
 congr 1
 rw[show(A++x :: M++y :: B).set (A.length+1+M.length) x=A++x :: M++x :: B by
  rw[wW _ _ (by simp;omega)]
  simp[show A.length+1+M.length-(A.length+(M.length+1))=0 by omega]]
 rw[zB,wW _ _ (zR _)];simp
section
variable {α:Type} [Inhabited α] {enc:α->List Value} {k:Nat}
structure SortAt (enc:α->List Value) (k:Nat) (w:World) (b o:Nat) (d:List α) (W:World):Prop where
 grown:w.grownBy W (some b)
 holds:HoldsK enc k W b o d.toArray
 old:b<w.heap.size
variable {w W W':World} {b o:Nat} {d:List α}
theorem SortAt.later(h:SortAt enc k w b o d W)(hx:Ext W W'):SortAt enc k w b o d W' :=
 ⟨My h.grown hx,λ j hj=>by
  have hb:b<W.heap.size:=zU h.old h.grown.size;have:=h.holds j hj
  exact⟨(World.cell?_of_block (w:=W) (hx.block b hb)).trans this.1,(World.frozen?_of_block (w:=W) (hx.block b hb)).trans this.2⟩,h.old⟩
theorem SortAt.drew(h:SortAt enc k w b o d W):SortAt enc k w b o d W.drew:=h.later (uP W).drew
theorem SortAt.swap(h:SortAt enc k w b o d W)(hk:∀x,(enc x).length=k){d':List α}{i j:Nat}(hi:i<d.length)(hj:j<d.length)(hd:swp d.toArray i j=d'.toArray) :
  SortAt enc k w b o d' ((W.setCells b (o+i*k) (enc d.toArray[j]!)).setCells b (o+j*k) (enc d.toArray[i]!)):=by
 refine⟨LN _ _ _ (LN _ _ _ h.grown),?_,h.old⟩;have e:=putRowK_swp enc k hk W b o d.toArray i j (by simpa using hi) (by simpa using hj);rw[putRowK_self enc k W b o d.toArray h.holds,hd]at e;rw[e];exact holdsK_putRowK enc k W b o d.toArray _ h.holds (by rw[<-hd];simp[size_swp])
theorem SortAt.cell(h:SortAt enc k w b o d W){i c:Nat}{x:α}(hi:d[i]? = some x)(hc:c<k) :
  W.cell? ⟨b,o+i*k+c,none⟩=some (enc x)[c]!/\W.frozen? ⟨b,o+i*k+c,none⟩=false:=by
 have hl:=Zy hi;have:=HoldsK.cell h.holds (i:=i) (c:=c) (by simpa using hl) hc;rw[Vo hi]at this;exact this
end
structure TCell where
 neg:Bool
 ma:Option Addr
 mn:Nat
 mc:Nat
 oa:Option Addr
 on:Nat
 oc:Nat
abbrev Z0{α:Type}(tc:α->TCell)(x:α):List Value:=[.bool (tc x).neg,(.slice (tc x).ma (tc x).mn (tc x).mc),(.slice (tc x).oa (tc x).on (tc x).oc)]
section
variable {α:Type} [Inhabited α] {tc:α->TCell} {w W:World} {b o:Nat} {d:List α}
theorem SortAt.get3(h:SortAt (Z0 tc) 3 w b o d W){i:Nat}{x:α}(hi:d[i]? = some x) :
  (W.cell? ⟨b,o+i*3,none⟩=some (.bool (tc x).neg)/\W.cell? ⟨b,o+i*3+1,none⟩=some (.slice (tc x).ma (tc x).mn (tc x).mc)/\W.cell? ⟨b,o+i*3+2,none⟩=some (.slice (tc x).oa (tc x).on (tc x).oc)) /\
  W.frozen? ⟨b,o+i*3,none⟩=false/\W.frozen? ⟨b,o+i*3+1,none⟩=false/\W.frozen? ⟨b,o+i*3+2,none⟩=false:=by
 have c0:=h.cell hi (c:=0) (by omega);have c1:=h.cell hi (c:=1) (by omega);have c2:=h.cell hi (c:=2) (by omega);exact⟨⟨c0.1,c1.1,c2.1⟩,c0.2,c1.2,c2.2⟩
theorem SortAt.swap3(h:SortAt (Z0 tc) 3 w b o d W){d':List α}{i j:Nat}{x y:α}(hi:d[i]? = some x)(hj:d[j]? = some y)(hd:swp d.toArray i j=d'.toArray) :
  SortAt (Z0 tc) 3 w b o d' ((((((W.setCell ⟨b,o+i*3,none⟩ (.bool (tc y).neg)).setCell ⟨b,o+i*3+1,none⟩ (.slice (tc y).ma (tc y).mn (tc y).mc)).setCell ⟨b,o+i*3+2,none⟩ (.slice (tc y).oa (tc y).on (tc y).oc)).setCell
   ⟨b,o+j*3,none⟩ (.bool (tc x).neg)).setCell ⟨b,o+j*3+1,none⟩ (.slice (tc x).ma (tc x).mn (tc x).mc)).setCell ⟨b,o+j*3+2,none⟩ (.slice (tc x).oa (tc x).on (tc x).oc)):=by
 have:=h.swap (λ _=>rfl) (Zy hi) (Zy hj) hd;rw[Vo hi,Vo hj]at this;exact this
end
structure PCell where
 a:Option Addr
 n:Nat
 c:Nat
section
variable {α:Type} [Inhabited α] {pc:α->PCell} {w W:World} {b o:Nat} {d:List α}
end
end
section
open Go.RowKit Go.Sort
section
variable {α:Type} [Inhabited α] {tc:α->TCell} {w:World} {b o:Nat} {cf:α->α->Int} {le:α->α->Bool}
abbrev Ya(g:Nat)(tc:α->TCell)(cf:α->α->Int)(w:World)(b:Nat):Prop :=
 ∀W,w.grownBy W (some b)->∀x y:α,Calls Tryz.prog g #[.agg #[.bool (tc x).neg,.slice (tc x).ma (tc x).mn (tc x).mc,.slice (tc x).oa (tc x).on (tc x).oc],.agg #[.bool (tc y).neg,.slice (tc y).ma (tc y).mn (tc y).mc,.slice (tc y).oa (tc y).on (tc y).oc]] W λ e w'=>e=.returned (.int .i64 (cf x y))/\Ext W w'
structure CmpLe (cf:α->α->Int) (le:α->α->Bool):Prop where
 range:∀x y,-1<=cf x y/\cf x y<=1
 eq:∀x y,le y x=decide (0<=cf x y)
 total:TotalLe le
theorem Ac(cap:Nat)(P X T:List α)(W:World)(hc:Ya 105 tc cf w b)(hl:CmpLe cf le)(h:SortAt (Z0 tc) 3 w b o (P++X++T) W)(_hcap:(P++X++T).length<=cap)(hcap2:(P++X++T).length<=1000000000000) :
  Calls Tryz.prog 154 #[.slice (some ⟨b,o,none⟩) (P++X++T).length cap,.int .i64 P.length,.int .i64 (P.length+X.length:Nat),.func (.func 105) #[] #[]] W
   λ e w'=>e=.returned (.tuple #[])/\SortAt (Z0 tc) 3 w b o (P++Y9 le X++T) w':=by
 have H:=Z_ h;have HC:=Z_ hc;have HL:=Z_ hl;clear h hc hl;obtain⟨n,hn⟩:∃n,n=(P++X++T).length:=⟨_,rfl⟩
 obtain⟨m,hm⟩:∃m,m=P.length+X.length:=⟨_,rfl⟩
 obtain⟨a,ha⟩:∃a,a=P.length:=⟨_,rfl⟩
 rw[<-hn]at _hcap hcap2⊢;rw[<-hm,<-ha];have hmn:m<=n:=by rw[hm,hn];simp
 have ag:a<=m:=by rw[ha,hm];simp
 have HN:=Z_ hn;have HA:=Z_ ha;have HM:=Z_ hm;clear hn ha hm
 cases X with
 |nil=>
  obtain rfl:m=a:=by rw[HM.o,HA.o];simp
  go_enter Tryz.func154,Tryz.ntmps154
  go_wp2;refine wp_loop_rounds 1 ?_;rw[rounds_succ];go_wp2
  go_end0
  exact⟨rfl,H.o⟩
 |cons x0 X=>
  have ag:a<m:=by rw[HA.o,HM.o];simp
  go_enter Tryz.func154,Tryz.ntmps154
  go_wp2
  go_loopw [8] (λ vi wr=>∃(i:Nat) (X1 K:List α),vi=.int .i64 i/\a<i/\i<=m/\Hd (i=a+X1.length)/\Hd (x0 :: X=X1++K)/\SortAt (Z0 tc) 3 w b o (P++Y9 le X1++K++T) wr) (λ vi _=>m-(intOf vi).toNat)
  case atStart=>exact⟨a+1,[x0],X,by go_num,by omega,by omega,rfl,rfl,by rw[zd6];simpa using H.o⟩
  case round=>
   obtain⟨i,X1,K,rfl,hai,him,HI,HX,hs⟩:=hrel;have HS:=Z_ hs;clear hs
   by_cases hlt:i<m
   ·cases K with
    |nil=>
     exfalso
     have h1:=HI.o;have h2:=congrArg List.length HX.o;have h3:=HM.o;have h4:=HA.o;simp at h2 h3;omega
    |cons x K=>
     go_wp2
     go_loopw [9] (λ vj wr2=>∃(j:Nat) (S1 S2:List α),vj=.int .i64 j/\a<=j/\j<=i/\Hd (j=a+S1.length)/\Hd (Y9 le X1=S1++S2)/\Hd (∀y∈S2,le y x=false)/\SortAt (Z0 tc) 3 w b o (P++S1++x :: S2++K++T) wr2) (λ vj _=>(intOf vj).toNat)
     case atStart=>exact⟨i,Y9 le X1,[],rfl,by omega,zR _,by rw[HI.o,z1g];rfl,by show _=_;simp,λ y hy=>by simp at hy,by simpa using HS.o⟩
     case round=>
      obtain⟨j,S1,S2,rfl,haj,hji,HJ,aa,ac,O⟩:=hrel
      rcases(show S1=[]∨∃L z,S1=L ++ [z] by simpa using List.eq_nil_or_concat S1) with rfl|⟨I,y,rfl⟩
      ·obtain rfl:j=a:=by rw[HJ.o];rfl
       have hb:decide ((j:Int)>(j:Int))=false:=by simp
       have HD:=Z_ O;clear O;go_wp2;refine Zh (by kernel_rfl) (by kernel_rfl) ?_
       repeat (go_big_quiet_step (fail))
       refine wpQuiet_nil ?_;intro W2 J;have U:=Z_ (HD.o.later J);clear J;go_wp2
       go_roundw
       case rel=>
        refine⟨i+1,X1 ++ [x],K,by go_num,by omega,by omega,?_,?_,?_⟩
        ·show _=_;have:=HI.o;simp;omega
        ·show _=_;rw[HX.o];simp
        ·have e:=Rm (le:=le) (S1:=[]) (S2:=S2) (x:=x) (by simp) ac.o;rw[Sl HL.o.total,zd6,aa.o,e];have:=U.o;simpa using this
       case measure=>simp[intOf];omega
      ·obtain⟨D,rfl⟩:∃D,j=D+1:=⟨j-1,by have:=HJ.o;simp at this;omega⟩
       have hj:D=(P++I).length:=by have:=HJ.o;have:=HA.o;simp at *;omega
       have hjn:D+1<n:=by omega
       have g0:(P++(I ++ [y])++x :: S2++K++T)[D]? = some y:=by rw[hj];simp
       have g1:(P++(I ++ [y])++x :: S2++K++T)[D+1]? = some x:=by
        rw[show D+1=(P++I ++ [y]).length by simp[hj,Nat.add_assoc],show P++(I ++ [y])++x :: S2++K++T=(P++I ++ [y])++(x :: (S2++K++T)) by simp];exact WL _ _ _
       have HD:=Z_ O;have HG:=Z_ (zS g0 g1);have ap:=Z_ hj;have L0:=λ Y:Later wr=>(O.later Y.h).get3 g0;have L1:=λ Y:Later wr=>(O.later Y.h).get3 g1;have LC:=λ Y:Later wr=>HC.o Y.w' (O.later Y.h).grown x y;have a0:=λ Y=>(L0 Y).1.1;have a1:=λ Y=>(L0 Y).1.2.1;have a2:=λ Y=>(L0 Y).1.2.2;have b0:=λ Y=>(L1 Y).1.1;have b1:=λ Y=>(L1 Y).1.2.1;have b2:=λ Y=>(L1 Y).1.2.2;obtain⟨r1,r2⟩:=HL.o.range x y;have ae:=Z_ (HL.o.eq x y);generalize cf x y=c at *;have ad:=Z_ LC;clear L0 L1 LC O g0 g1 hj
       by_cases ah:c<0
       ·have Z:le y x=false:=by rw[ae.o];exact decide_eq_false (by omega)
        have al:=Z_ Z;clear Z;have q1:(a:Int)<(D:Int)+1:=by have:=HJ.o;simp at this;omega
        have q2:(D:Int)+1<(n:Int):=by omega
        have q3:(D:Int)<(n:Int):=by omega
        have q4:(0:Int)<=(D:Int)+1:=by omega
        have q5:((D:Int)+1).toNat=D+1:=by omega
        have q6:IntKind.i64.wrap (D:Int)=(D:Int):=by rw[IntKind.wrap_i64];omega
        go_wp2;refine Zh (by kernel_rfl) (by kernel_rfl) ?_
        repeat (go_big_quiet_step (first|(go_at_call 105;exact uL (ad.o _))))
        refine wpQuiet_nil ?_;intro W2 J;clear a0 a1 a2 b0 b1 b2;have U:=Z_ (HD.o.later J);clear J;obtain⟨⟨c0,c1,c2⟩,f0,f1,f2⟩:=U.o.get3 HG.o.1;obtain⟨⟨d0,d1,d2⟩,k0,k1,k2⟩:=U.o.get3 HG.o.2
        have ai:=Z_ (U.o.swap3 HG.o.2 HG.o.1 (d':=P++I++x :: (y :: S2)++K++T) (by
         have e:=Oc (P++I) [] (S2++K++T) y x;simp only[zB,zc,yL,zo,zp]at e⊢;rw[ap.o]
         exact e))
        go_wp2
        go_big_region
        all_goals go_wp2
        go_roundw
        case rel=>
         refine⟨D,I,y :: S2,rfl,?_,by omega,?_,?_,?_,?_⟩
         ·have:=HJ.o;simp at this;omega
         ·have:=HJ.o;simp at this;show _=_;omega
         ·show _=_;rw[aa.o];simp
         ·intro z hz
          rcases zJ.1 hz with rfl|hz
          ·exact al.o
          ·exact ac.o z hz
         ·exact ai.o.drew
        case measure=>simp[intOf]
       ·have Z:le y x=true:=by rw[ae.o];exact decide_eq_true (by omega)
        have aj:=Z_ Z;clear Z;have q1:(a:Int)<(D:Int)+1:=by have:=HJ.o;simp at this;omega
        have q2:(D:Int)+1<(n:Int):=by omega
        have q3:(D:Int)<(n:Int):=by omega
        have q4:(0:Int)<=(D:Int)+1:=by omega
        have q5:((D:Int)+1).toNat=D+1:=by omega
        have q6:IntKind.i64.wrap (D:Int)=(D:Int):=by rw[IntKind.wrap_i64];omega
        have q7:¬ c<0:=ah;go_wp2;refine Zh (by kernel_rfl) (by kernel_rfl) ?_
        repeat (go_big_quiet_step (first|(go_at_call 105;exact uL (ad.o _))))
        refine wpQuiet_nil ?_;intro W2 J;clear a0 a1 a2 b0 b1 b2;have U:=Z_ (HD.o.later J);clear J;go_wp2
        go_roundw
        case rel=>
         refine⟨i+1,X1 ++ [x],K,by go_num,by omega,by omega,?_,?_,?_⟩
         ·show _=_;have:=HI.o;simp;omega
         ·show _=_;rw[HX.o];simp
         ·have e:=Rm (le:=le) (S1:=I ++ [y]) (S2:=S2) (x:=x) (by
           refine z1f.last HL.o.total ?_ aj.o;have:=TU HL.o.total X1;rw[aa.o]at this
           exact(ye.1 this).1) ac.o
          rw[Sl HL.o.total,zd6,aa.o,e];have:=U.o;simpa using this
        case measure=>simp[intOf];omega
   ·obtain rfl:i=m:=by omega
    have af:K=[]:=by
     have h1:=HI.o;have h2:=congrArg List.length HX.o;have h3:=HM.o;have h4:=HA.o;simp at h2 h3;exact zO.1 (by omega)
    subst af
    have HF:Hd (SortAt (Z0 tc) 3 w b o (P++Y9 le (x0 :: X)++T) wr):=by
     have h1:=HS.o;have h2:=HX.o;rw[yj]at h2;rw[h2];exact Z_ (by simpa using h1)
    go_wp2
    go_end0
    exact⟨rfl,HF.o⟩
end
end
section
open Go.RowKit Go.Sort
section
variable {α:Type} [Inhabited α] {tc:α->TCell} {w:World} {b o:Nat}
theorem Gq(cap:Nat)(P U M V Q:List α)(n:Nat)(cv:Value)(W:World)(hu:U.length=n)(hv:V.length=n)(h:SortAt (Z0 tc) 3 w b o (P++U++M++V++Q) W)(_hcap:(P++U++M++V++Q).length<=cap)(hcap2:(P++U++M++V++Q).length<=1000000000000) :
  Calls Tryz.prog 177 #[.slice (some ⟨b,o,none⟩) (P++U++M++V++Q).length cap,.int .i64 P.length,.int .i64 (P.length+n+M.length:Nat),.int .i64 n,cv] W
   λ e w'=>e=.returned (.tuple #[])/\SortAt (Z0 tc) 3 w b o (P++V++M++U++Q) w':=by
 have H:=Z_ h;have HU:=Z_ hu;have HV:=Z_ hv;clear h;obtain⟨l,hl⟩:∃l,l=(P++U++M++V++Q).length:=⟨_,rfl⟩
 obtain⟨m,hm⟩:∃m,m=P.length+n+M.length:=⟨_,rfl⟩
 obtain⟨a,ha⟩:∃a,a=P.length:=⟨_,rfl⟩
 rw[<-hl]at _hcap hcap2⊢;rw[<-hm,<-ha];have hmn:m+n<=l:=by rw[hm,hl];simp;omega
 have ham:a+n<=m:=by rw[ha,hm];omega
 have HL:=Z_ hl;have HA:=Z_ ha;have HM:=Z_ hm;clear hl ha hm hu hv
 go_enter Tryz.func177,Tryz.ntmps177
 go_wp2
 go_loopw [10] (λ vi wr=>∃(i:Nat) (I z D K:List α),vi=.int .i64 i/\i<=n/\Hd (i=I.length)/\Hd (i=D.length)/\Hd (U=I++z)/\Hd (V=D++K)/\SortAt (Z0 tc) 3 w b o (P++D++z++M++I++K++Q) wr) (λ vi _=>n-(intOf vi).toNat)
 case atStart=>exact⟨0,[],U,[],V,rfl,by omega,rfl,rfl,rfl,rfl,by simpa using H.o⟩
 case round=>
  obtain⟨i,I,z,D,K,rfl,hin,HI,X,O,Z,hs⟩:=hrel;have HS:=Z_ hs;clear hs
  by_cases hlt:i<n
  ·cases z with
   |nil=>
    exfalso
    have h1:=HI.o;have J:=HU.o;rw[O.o]at J;simp at J;omega
   |cons x z=>
    cases K with
    |nil=>
     exfalso
     have h1:=X.o;have J:=HV.o;rw[Z.o]at J;simp at J;omega
    |cons y K=>
     have hx:a+i=(P++D).length:=by have:=HA.o;have:=X.o;simp;omega
     have hy:m+i=(P++D).length+1+(z++M++I).length:=by
      have h1:=HI.o;have J:=HU.o;have h3:=HM.o;have h4:=X.o;rw[O.o]at J;simp at J⊢;omega
     have g0:(P++D++x :: z++M++I++y :: K++Q)[a+i]? = some x:=by
      rw[hx,show P++D++x :: z++M++I++y :: K++Q=(P++D)++x :: (z++M++I++y :: K++Q) by simp];exact WL _ _ _
     have g1:(P++D++x :: z++M++I++y :: K++Q)[m+i]? = some y:=by
      rw[hy,show(P++D).length+1+(z++M++I).length=(P++D++x :: z++M++I).length by simp;omega,show P++D++x :: z++M++I++y :: K++Q=(P++D++x :: z++M++I)++y :: (K++Q) by simp];exact WL _ _ _
     obtain⟨⟨c0,c1,c2⟩,f0,f1,f2⟩:=HS.o.get3 g0;obtain⟨⟨d0,d1,d2⟩,k0,k1,k2⟩:=HS.o.get3 g1
     have HD:=Z_ (HS.o.swap3 g0 g1 (d':=P++D++y :: z++M++I++x :: K++Q) (by
      have e:=NZ (P++D) (z++M++I) (K++Q) x y;rw[hx,hy];simp only[zB,zc]at e⊢
      exact e))
     clear g0 g1 hx hy;have q1:(a:Int)+(i:Int)<(l:Int):=by omega
     have q2:(m:Int)+(i:Int)<(l:Int):=by omega
     have q3:(0:Int)<=(a:Int)+(i:Int):=by omega
     have q4:(0:Int)<=(m:Int)+(i:Int):=by omega
     have q5:((a:Int)+(i:Int)).toNat=a+i:=by omega
     have q6:((m:Int)+(i:Int)).toNat=m+i:=by omega
     go_wp2
     go_big_region
     all_goals go_wp2
     go_roundw
     case rel=>
      refine⟨i+1,I ++ [x],z,D ++ [y],K,by go_num,by omega,?_,?_,?_,?_,?_⟩
      ·show _=_;rw[HI.o];simp
      ·show _=_;rw[X.o];simp
      ·show _=_;rw[O.o];simp
      ·show _=_;rw[Z.o];simp
      ·have:=HD.o.drew;simpa using this
     case measure=>simp[intOf];omega
  ·obtain rfl:i=n:=by omega
   have h1:z=[]:=by
    have h1:=HI.o;have J:=HU.o;rw[O.o]at J;simp at J;exact zO.1 (by omega)
   have J:K=[]:=by
    have h1:=X.o;have J:=HV.o;rw[Z.o]at J;simp at J;exact zO.1 (by omega)
   subst h1 J
   have HF:Hd (SortAt (Z0 tc) 3 w b o (P++V++M++U++Q) wr):=by
    have:=HS.o;rw[O.o,Z.o];exact Z_ (by simpa using this)
   go_wp2
   go_end0
   exact⟨rfl,HF.o⟩
theorem Rx{cap l:Nat}{za zb zn:Int}{cv:Value}{cur:List α}(P U M V Q:List α)(W:World)(hcur:cur=P++U++M++V++Q)(hl:l=cur.length)(hza:za=P.length)(hzb:zb=P.length+U.length+M.length)(hzn:zn=U.length)(hv:V.length=U.length)
  (h:SortAt (Z0 tc) 3 w b o cur W) (hcap:l<=cap) (hcap2:l<=1000000000000) :
  Calls Tryz.prog 177 #[.slice (some ⟨b,o,none⟩) l cap,.int .i64 za,.int .i64 zb,.int .i64 zn,cv] W
   λ e w'=>e=.returned (.tuple #[])/\SortAt (Z0 tc) 3 w b o (P++V++M++U++Q) w':=by
 subst hcur hl hza hzn;obtain rfl:zb=((P.length+U.length+M.length:Nat):Int):=by rw[hzb];omega
 exact Gq cap P U M V Q U.length cv W rfl hv h hcap hcap2
theorem VC{cap l:Nat}{za zm zb:Int}{cv:Value}{cur:List α}(P X Y Q:List α)(W:World)(hcur:cur=P++X++Y++Q)(hl:l=cur.length)(hza:za=P.length)(hzm:zm=P.length+X.length)(hzb:zb=P.length+X.length+Y.length)
  (h:SortAt (Z0 tc) 3 w b o cur W) (hx:X≠[]) (hy:Y≠[]) (hcap:l<=cap) (hcap2:l<=1000000000000) :
  Calls Tryz.prog 168 #[.slice (some ⟨b,o,none⟩) l cap,.int .i64 za,.int .i64 zm,.int .i64 zb,cv] W
   λ e w'=>e=.returned (.tuple #[])/\SortAt (Z0 tc) 3 w b o (P++Y++X++Q) w':=by
 have av:0<X.length:=yF.2 hx;have al:0<Y.length:=yF.2 hy;have H:=Z_ h;obtain⟨m,hm⟩:∃m,m=P.length+X.length:=⟨_,rfl⟩
 obtain⟨a,ha⟩:∃a,a=P.length:=⟨_,rfl⟩
 obtain⟨i0,ag⟩:∃a,a=X.length:=⟨_,rfl⟩
 obtain⟨j0,U⟩:∃a,a=Y.length:=⟨_,rfl⟩
 obtain rfl:za=a:=by omega
 obtain rfl:zm=m:=by omega
 obtain⟨B,hB⟩:∃B,B=m+j0:=⟨_,rfl⟩
 obtain rfl:zb=(B:Int):=by omega
 have HB:=Z_ hB;have hmB:m<=B:=by omega
 have hBl:B<=l:=by rw[hl,hcur,hB,hm,U];simp;omega
 have ap:m+j0<=l:=by rw[hl,hcur,hm,U];simp;omega
 have ad:m=a+i0:=by omega
 have HM:=Z_ ad;have ai:=Z_ hl;have aa:=Z_ hcur;have ax:=Z_ ha;have af:=Z_ ag;have az:=Z_ U;have hai:a<=m:=by omega
 have ay:1<=i0:=by omega
 have au:1<=j0:=by omega
 have w1:IntKind.i64.wrap ((m:Int)-(a:Int))=(i0:Int):=by rw[IntKind.wrap_i64];omega
 have W1:=Z_ w1;clear h hx hy av al hza hzm hzb hl hcur ha ag U hm ad w1 hB
 go_enter Tryz.func168,Tryz.ntmps168
 go_wp2
 go_loopw [10,11] (λ vi vj wr=>∃(i j:Nat) (O D Y' Z:List α),vi=.int .i64 i/\vj=.int .i64 j/\1<=i/\1<=j/\i<=m/\m+j<=l/\Hd (i=D.length)/\Hd (j=Y'.length)/\Hd (m=O.length+D.length)/\Hd (O++Y'++D++Z=P++Y++X++Q)/\SortAt (Z0 tc) 3 w b o (O++D++Y'++Z) wr) (λ vi vj _=>(intOf vi).toNat+(intOf vj).toNat)
 case atStart=>exact⟨i0,j0,P,X,Y,Q,by have:=HM.o;congr 1;omega,by have:=HB.o;congr 1;omega,ay,au,by have:=HM.o;omega,ap,af.o,az.o,by show _=_;rw[HM.o,ax.o,af.o],rfl,by have:=H.o;rw[aa.o]at this;exact this⟩
 case round=>
  obtain⟨i,j,O,D,Y',Z,rfl,rfl,hi,hj,ar,aj,K,HJ,y,HE,hs⟩:=hrel;have HS:=Z_ hs
  have ac:Hd (l=(O++D++Y'++Z).length):=Z_ (by
   have h1:=ai.o;have h2:=congrArg List.length HE.o;rw[aa.o]at h1;simp at h1 h2⊢
   omega)
  clear hs
  rcases(show i=j∨j<i∨i<j by omega) with rfl|aq|aq
  ·have C:=Z_ (Rx (cap:=cap) (l:=l) (za:=(m:Int)-(i:Int)) (zb:=m) (zn:=i) (cv:=cv) O D [] Y' Z wr (by simp) ac.o (by have:=y.o;have:=K.o;omega) (by have:=y.o;simp;omega) (by have:=K.o;omega) (by rw[<-K.o,<-HJ.o]) HS.o hcap hcap2);have q0:((i:Int) != (i:Int))=false:=by simp
   go_wp2_with fail;refine C.o.mono ?_;rintro e w2 ⟨rfl,z⟩;have HF:=Z_ z;clear z;go_wp2
   go_end0
   refine⟨rfl,?_⟩;have:=HF.o;rw[<-HE.o];simpa using this
  ·obtain⟨X1,X2,hX,ah⟩:∃X1 X2,D=X1++X2/\X1.length=j:=⟨D.take j,D.drop j,(y_ j D).symm,by rw[zD];have:=K.o;omega⟩
   subst hX;have I:=Z_ ah;clear ah;have C:=Z_ (Rx (cap:=cap) (l:=l) (za:=(m:Int)-(i:Int)) (zb:=m) (zn:=j) (cv:=cv) O X1 X2 Y' Z wr (by simp) ac.o (by have:=y.o;have:=K.o;omega) (by have:=y.o;simp at this;omega) (by have:=I.o;omega) (by rw[I.o,<-HJ.o]) HS.o hcap hcap2);have q0:((i:Int) != (j:Int))=true:=by simp;omega
   have q1:(i:Int)>(j:Int):=by omega
   go_wp2_with fail;refine C.o.mono ?_;rintro e w2 ⟨rfl,z⟩;have HF:=Z_ z;clear z;go_wp2
   go_roundw
   case rel=>
    refine⟨i-j,j,O++Y',X2,X1,Z,by congr 1;omega,rfl,by omega,hj,by omega,aj,?_,?_,?_,?_,?_⟩
    ·show _=_;have:=K.o;have:=I.o;simp at *;omega
    ·exact I.o.symm
    ·show _=_;have:=y.o;have:=I.o;have:=HJ.o;simp at *;omega
    ·show _=_;rw[<-HE.o];simp
    ·have:=HF.o;simpa using this
   case measure=>simp[intOf];omega
  ·obtain⟨Y1,Y2,hY,ae⟩:∃Y1 Y2,Y'=Y1++Y2/\Y2.length=i:=⟨Y'.take (j-i),Y'.drop (j-i),(y_ _ Y').symm,by rw[yG];have:=HJ.o;omega⟩
   subst hY;have J:=Z_ ae;clear ae;have C:=Z_ (Rx (cap:=cap) (l:=l) (za:=(m:Int)-(i:Int)) (zb:=(m:Int)+(j:Int)-(i:Int)) (zn:=i) (cv:=cv) O D Y1 Y2 Z wr (by simp) ac.o (by have:=y.o;have:=K.o;omega) (by have:=y.o;have:=HJ.o;have:=J.o;simp at *;omega) (by have:=K.o;omega) (by rw[J.o,<-K.o]) HS.o hcap hcap2);have q0:((i:Int) != (j:Int))=true:=by simp;omega
   have q1:¬ (i:Int)>(j:Int):=by omega
   go_wp2_with fail;refine C.o.mono ?_;rintro e w2 ⟨rfl,z⟩;have HF:=Z_ z;clear z;go_wp2
   go_roundw
   case rel=>
    refine⟨i,j-i,O,Y2,Y1,D++Z,rfl,by congr 1;omega,hi,by omega,ar,by omega,?_,?_,?_,?_,?_⟩
    ·exact J.o.symm
    ·show _=_;have:=HJ.o;have:=J.o;simp at *;omega
    ·show _=_;have:=y.o;have:=J.o;have:=K.o;omega
    ·show _=_;rw[<-HE.o];simp
    ·have:=HF.o;simpa using this
   case measure=>simp[intOf];omega
end
end
section
open Go.RowKit Go.Sort
section
variable {α:Type} {le:α->α->Bool}
theorem z1f.le_at{B:List α}(h:z1f le B){i j:Nat}{x y:α}(hx:B[i]? = some x)(hy:B[j]? = some y)(hij:i<j):le x y=true:=by
 obtain⟨h1,rfl⟩:=yd.1 hx;obtain⟨h2,rfl⟩:=yd.1 hy;exact List.pairwise_iff_getElem.1 h i j h1 h2 hij
theorem SS{B:List α}{t:Nat}{y:α}(h:y∈B.take t):∃k,k<t/\B[k]? = some y:=by
 obtain⟨k,hk⟩:=yp h;rw[w_]at hk
 split at hk
 ·exact⟨k,by assumption,hk⟩
 ·cases hk
theorem SN{B:List α}{t:Nat}{y:α}(h:y∈B.drop t):∃k,t<=k/\B[k]? = some y:=by
 obtain⟨k,hk⟩:=yp h;rw[yx]at hk;exact⟨t+k,by omega,hk⟩
theorem LH(hl:TotalLe le){B:List α}(h:z1f le B){x:α}{t:Nat}(h1:t=0∨∃z,B[t-1]? = some z/\le x z=false):∀y∈B.take t,le x y=false:=by
 intro y O;obtain⟨k,hk,D⟩:=SS O
 rcases h1 with rfl|⟨z,J,I⟩
 ·omega
 ·rcases(show k=t-1∨k<t-1 by omega) with rfl|K
  ·rw[D]at J
   cases J
   exact I
  ·exact hl.not_of' I (h.le_at D J K)
theorem Mn(hl:TotalLe le){B:List α}(h:z1f le B){x:α}{t:Nat}(h1:t=B.length∨∃z,B[t]? = some z/\le x z=true):∀y∈B.drop t,le x y=true:=by
 intro y O;obtain⟨k,hk,D⟩:=SN O
 rcases h1 with rfl|⟨z,J,I⟩
 ·have:=Zy D;omega
 ·rcases(show k=t∨t<k by omega) with rfl|K
  ·rw[D]at J
   cases J
   exact I
  ·exact hl.trans _ _ _ I (h.le_at J D K)
theorem MJ(hl:TotalLe le){B:List α}(h:z1f le B){x:α}{t:Nat}(h1:t=0∨∃z,B[t-1]? = some z/\le z x=true):∀y∈B.take t,le y x=true:=by
 intro y O;obtain⟨k,hk,D⟩:=SS O
 rcases h1 with rfl|⟨z,J,I⟩
 ·omega
 ·rcases(show k=t-1∨k<t-1 by omega) with rfl|K
  ·rw[D]at J
   cases J
   exact I
  ·exact hl.trans _ _ _ (h.le_at D J K) I
theorem OP(hl:TotalLe le){B:List α}(h:z1f le B){x:α}{t:Nat}(h1:t=B.length∨∃z,B[t]? = some z/\le z x=false):∀y∈B.drop t,le y x=false:=by
 intro y O;obtain⟨k,hk,D⟩:=SN O
 rcases h1 with rfl|⟨z,J,I⟩
 ·have:=Zy D;omega
 ·rcases(show k=t∨t<k by omega) with rfl|K
  ·rw[D]at J
   cases J
   exact I
  ·exact hl.not_of I (h.le_at J D K)
theorem SQ{P B T:List α}{a i:Nat}(ha:a=P.length)(hi:i<B.length):(P++B++T)[a+i]? = B[i]?:=by
 rw[zB,yI (by omega),show a+i-P.length=i by omega,yc hi]
end
section
variable {α:Type} [Inhabited α] {tc:α->TCell} {w:World} {b o:Nat} {cf:α->α->Int} {le:α->α->Bool}
theorem Em{cap l:Nat}{a m e:Nat}(P B T:List α)(x:α)(cur:List α)(W:World)(hc:Ya 105 tc cf w b)(hcl:CmpLe cf le)(hcur:cur=P++x :: B++T)(hl:l=cur.length)(ha:a=P.length)(hm:m=a+1)(he:e=a+1+B.length)
  (h:SortAt (Z0 tc) 3 w b o cur W) (hB:z1f le B) (_hcap:l<=cap) (hcap2:l<=1000000000000) :
  Calls Tryz.prog 155 #[.slice (some ⟨b,o,none⟩) l cap,.int .i64 a,.int .i64 m,.int .i64 e,.func (.func 105) #[] #[]] W
   λ r w'=>r=.returned (.tuple #[])/\SortAt (Z0 tc) 3 w b o (P++ZH le [x] B++T) w':=by
 have H:=Z_ h;have HC:=Z_ hc;have HL:=Z_ hcl;have O:=Z_ hcur;have az:=Z_ hl;have HA:=Z_ ha;have hml:e<=l:=by rw[hl,hcur,he,ha];simp;omega
 have au:m<=e:=by omega
 have HM:=Z_ hm;have HE:=Z_ he;clear h hc hcl hcur hl ha he;have hm1:m<=a+1:=by omega
 have hm2:a+1<=m:=by omega
 have q0:((m:Int)-(a:Int) == 1)=true:=by rw[beq_iff_eq];omega
 clear hm;have gx:cur[a]? = some x:=by rw[O.o,HA.o,show P++x :: B++T=P++x :: (B++T) by simp];exact WL _ _ _
 have ar:=Z_ gx;clear gx
 go_enter Tryz.func155,Tryz.ntmps155
 go_wp2
 go_loopw [10,11] (λ vi vj wr=>∃i j:Nat,vi=.int .i64 i/\vj=.int .i64 j/\m<=i/\i<=j/\j<=e/\Hd (i=m∨∃z,cur[i-1]? = some z/\le x z=false)/\Hd (j=e∨∃z,cur[j]? = some z/\le x z=true)/\SortAt (Z0 tc) 3 w b o cur wr) (λ vi vj _=>(intOf vj).toNat-(intOf vi).toNat)
 case atStart=>exact⟨m,e,rfl,rfl,zR _,au,zR _,.inl rfl,.inl rfl,H.o⟩
 case round=>
  obtain⟨i,j,rfl,rfl,aq,hij,aF,HI,HJ,Z⟩:=hrel;have HS:=Z_ Z
  by_cases ai:i<j
  ·obtain⟨h,hh⟩:∃h,h=(i+j) / 2:=⟨_,rfl⟩
   have aB:i<=h:=by omega
   have hh2:h<j:=by omega
   obtain⟨z,hz⟩:=ZN (l:=cur) (j:=h) (by rw[<-az.o];omega);have HZ:=Z_ hz;have q1:((i:Int)+(j:Int)) / 2=(h:Int):=by omega
   have L0:=λ Y:Later wr=>(Z.later Y.h).get3 hz;have L1:=λ Y:Later wr=>(Z.later Y.h).get3 ar.o;have LC:=λ Y:Later wr=>HC.o Y.w' (Z.later Y.h).grown z x;have a0:=λ Y=>(L0 Y).1.1;have a1:=λ Y=>(L0 Y).1.2.1;have a2:=λ Y=>(L0 Y).1.2.2;have b0:=λ Y=>(L1 Y).1.1;have b1:=λ Y=>(L1 Y).1.2.1;have b2:=λ Y=>(L1 Y).1.2.2;obtain⟨r1,r2⟩:=HL.o.range z x;have ap:=Z_ (HL.o.eq z x);have HH:=Z_ hh;generalize cf z x=c at *;have af:=Z_ LC;clear L0 L1 LC Z hz hh;have q2:(h:Int)<(l:Int):=by omega
   have q3:(a:Int)<(l:Int):=by omega
   by_cases aA:c<0
   ·go_wp2;refine Zh (by kernel_rfl) (by kernel_rfl) ?_
    repeat (go_big_quiet_step (first|(go_at_call 105;exact uL (af.o _))))
    refine wpQuiet_nil ?_;intro W2 U;clear a0 a1 a2 b0 b1 b2;have ae:=Z_ (HS.o.later U);clear U;go_wp2
    go_roundw
    case rel=>
     refine⟨h+1,j,by go_num,rfl,by omega,by omega,aF,.inr ⟨z,by rw[xD];exact HZ.o,?_⟩,HJ,ae.o⟩;rw[ap.o];exact decide_eq_false (by omega)
    case measure=>simp only[intOf];omega
   ·have q4:¬ c<0:=aA;go_wp2;refine Zh (by kernel_rfl) (by kernel_rfl) ?_
    repeat (go_big_quiet_step (first|(go_at_call 105;exact uL (af.o _))))
    refine wpQuiet_nil ?_;intro W2 U;clear a0 a1 a2 b0 b1 b2;have ae:=Z_ (HS.o.later U);clear U;go_wp2
    go_roundw
    case rel=>
     refine⟨i,h,rfl,rfl,aq,aB,by omega,HI,.inr ⟨z,HZ.o,?_⟩,ae.o⟩;rw[ap.o];exact decide_eq_true (by omega)
    case measure=>simp only[intOf];omega
  ·obtain rfl:i=j:=by omega
   obtain⟨t,ht⟩:∃t,t=i-m:=⟨_,rfl⟩
   have aC:t<=B.length:=by have:=HE.o;omega
   have J:∀k,k<B.length->cur[m+k]? = B[k]?:=λ k hk=>by
    rw[O.o,show P++x :: B++T=(P ++ [x])++B++T by simp];exact SQ (by have:=HA.o;simp;omega) hk
   have e1:=LH HL.o.total hB (x:=x) (t:=t) (by
    rcases HI.o with h|⟨z,h1,X⟩
    ·exact .inl (by omega)
    ·rcases(show t=0∨0<t by omega) with h0|h0
     ·exact .inl h0
     ·refine .inr ⟨z,?_,X⟩;rw[<-J _ (by omega),<-h1]
      congr 1
      omega)
   have e2:=Mn HL.o.total hB (x:=x) (t:=t) (by
    rcases HJ.o with h|⟨z,h1,X⟩
    ·exact .inl (by have:=HE.o;omega)
    ·rcases(show t=B.length∨t<B.length by omega) with h0|h0
     ·exact .inl h0
     ·refine .inr ⟨z,?_,X⟩;rw[<-J _ h0,<-h1]
      congr 1
      omega)
   have ac:=Jw e1 e2;rw[y_]at ac;have ay:=Z_ ac;have ah:(B.take t).length=t:=by rw[zD];omega
   have HB:=Z_ (y_ t B);generalize B.take t=B1 at *;generalize B.drop t=B2 at *;have al:=Z_ ah;have HT:=Z_ ht;have ag:i=a+t+1:=by omega
   have aj:=Z_ ag;have ad:=HS.o;rw[O.o,<-HB.o]at ad;have ax:=Z_ ad;have hil:i<=l:=by omega
   clear Z J e1 e2 ac ah ht ag ad aC;go_wp2
   go_loopw [13] (λ vk wr=>∃(k:Nat) (D I:List α),vk=.int .i64 k/\k<i/\Hd (k=a+D.length)/\Hd (B1=D++I)/\SortAt (Z0 tc) 3 w b o (P++D++x :: I++B2++T) wr) (λ vk _=>i-(intOf vk).toNat)
   case atStart=>exact⟨a,[],B1,rfl,by omega,rfl,rfl,by simpa using ax.o⟩
   case round=>
    obtain⟨k,D,I,rfl,hki,HK,K,Z⟩:=hrel;have HS:=Z_ Z;clear Z
    by_cases ai:k+1<i
    ·cases I with
     |nil=>
      exfalso
      have h1:=K.o;have X:=al.o;have h3:=HK.o;have h4:=aj.o;rw[h1]at X;simp at X;omega
     |cons y I=>
      have hk:=HK.o;have aa:k=(P++D).length:=by rw[hk,HA.o];simp
      have g0:(P++D++x :: (y :: I)++B2++T)[k]? = some x:=by
       rw[aa,show P++D++x :: (y :: I)++B2++T=(P++D)++x :: (y :: I++B2++T) by simp];exact WL _ _ _
      have g1:(P++D++x :: (y :: I)++B2++T)[k+1]? = some y:=by
       rw[aa,show(P++D).length+1=(P++D ++ [x]).length by simp;omega,show P++D++x :: (y :: I)++B2++T=(P++D ++ [x])++y :: (I++B2++T) by simp];exact WL _ _ _
      obtain⟨⟨c0,c1,c2⟩,f0,f1,f2⟩:=HS.o.get3 g0;obtain⟨⟨d0,d1,d2⟩,k0,k1,k2⟩:=HS.o.get3 g1
      have HD:=Z_ (HS.o.swap3 g0 g1 (d':=P++D++y :: x :: I++B2++T) (by
       have e:=NZ (P++D) [] (I++B2++T) x y;rw[aa];simp only[zB,zc,yL,zo,zp]at e⊢
       exact e))
      clear g0 g1 hk aa;have q1:(k:Int)+1<(l:Int):=by omega
      have q2:(k:Int)<(l:Int):=by omega
      have q3:(0:Int)<=(k:Int)+1:=by omega
      have q5:((k:Int)+1).toNat=k+1:=by omega
      have q6:(k:Int)<(i:Int)-1:=by omega
      go_wp2
      go_big_region
      all_goals go_wp2
      go_roundw
      case rel=>
       refine⟨k+1,D ++ [y],I,by go_num,ai,?_,?_,?_⟩
       ·show _=_;have:=HK.o;simp;omega
       ·show _=_;rw[K.o];simp
       ·have:=HD.o.drew;simpa using this
      case measure=>simp only[intOf];omega
    ·have av:I=[]:=by
      have h1:=K.o;have X:=al.o;have h3:=HK.o;have h4:=aj.o;rw[h1]at X;simp at X;exact zO.1 (by omega)
     subst av
     have HF:Hd (SortAt (Z0 tc) 3 w b o (P++ZH le [x] B++T) wr):=by
      have:=HS.o;rw[ay.o,K.o];exact Z_ (by simpa using this)
     have q6:¬ (k:Int)<(i:Int)-1:=by omega
     go_wp2
     (try simp only[Exit.inBlock,Exit.then]);refine bodyPost_ret (results_none rfl _ _ _) rfl ?_
     exact⟨rfl,by first|(with_reducible exact HF.o)|(rw[<-zB];with_reducible exact HF.o)⟩
theorem IC{cap l:Nat}{a m e:Nat}(P A T:List α)(x:α)(cur:List α)(W:World)(hc:Ya 105 tc cf w b)(hcl:CmpLe cf le)(hcur:cur=P++A++x :: T)(hl:l=cur.length)(ha:a=P.length)(hm:m=a+A.length)(he:e=m+1)(hA2:2<=A.length)
  (h:SortAt (Z0 tc) 3 w b o cur W) (hA:z1f le A) (_hcap:l<=cap) (hcap2:l<=1000000000000) :
  Calls Tryz.prog 155 #[.slice (some ⟨b,o,none⟩) l cap,.int .i64 a,.int .i64 m,.int .i64 e,.func (.func 105) #[] #[]] W
   λ r w'=>r=.returned (.tuple #[])/\SortAt (Z0 tc) 3 w b o (P++ZH le A [x]++T) w':=by
 have hnot:∀(x:Bool) (w:World),(Op.unary .not (.bool x)).run Tryz.prog w=.ok (.bool (!x)) w:=λ _ _=>rfl;have H:=Z_ h;have HC:=Z_ hc;have HL:=Z_ hcl;have O:=Z_ hcur;have ay:=Z_ hl;have HA:=Z_ ha;have hml:e<=l:=by rw[hl,hcur,he,hm,ha];simp;omega
 have hae:a+2<=m:=by omega
 have HM:=Z_ hm;have hem:m<e:=by omega
 have q0:((m:Int)-(a:Int) == 1)=false:=by rw[beq_eq_false_iff_ne];omega
 have q00:((e:Int)-(m:Int) == 1)=true:=by rw[beq_iff_eq];omega
 have ac:(P++A).length=m:=by rw[hm,ha];simp
 clear h hc hcl hcur hl ha he hm hA2;have gx:cur[m]? = some x:=by rw[O.o,<-ac];exact WL _ _ _
 have au:=Z_ gx;have HMM:=Z_ ac;clear gx ac
 go_enter Tryz.func155,Tryz.ntmps155
 go_wp2
 go_loopw [14,15] (λ vi vj wr=>∃i j:Nat,vi=.int .i64 i/\vj=.int .i64 j/\a<=i/\i<=j/\j<=m/\Hd (i=a∨∃z,cur[i-1]? = some z/\le z x=true)/\Hd (j=m∨∃z,cur[j]? = some z/\le z x=false)/\SortAt (Z0 tc) 3 w b o cur wr) (λ vi vj _=>(intOf vj).toNat-(intOf vi).toNat)
 case atStart=>exact⟨a,m,rfl,rfl,zR _,by omega,zR _,.inl rfl,.inl rfl,H.o⟩
 case round=>
  obtain⟨i,j,rfl,rfl,ar,hij,aF,HI,HJ,X⟩:=hrel;have HS:=Z_ X
  by_cases az:i<j
  ·obtain⟨h,hh⟩:∃h,h=(i+j) / 2:=⟨_,rfl⟩
   have aA:i<=h:=by omega
   have hh2:h<j:=by omega
   obtain⟨z,hz⟩:=ZN (l:=cur) (j:=h) (by rw[<-ay.o];omega);have HZ:=Z_ hz;have q1:((i:Int)+(j:Int)) / 2=(h:Int):=by omega
   have L0:=λ Y:Later wr=>(X.later Y.h).get3 hz;have L1:=λ Y:Later wr=>(X.later Y.h).get3 au.o;have LC:=λ Y:Later wr=>HC.o Y.w' (X.later Y.h).grown x z;have a0:=λ Y=>(L0 Y).1.1;have a1:=λ Y=>(L0 Y).1.2.1;have a2:=λ Y=>(L0 Y).1.2.2;have b0:=λ Y=>(L1 Y).1.1;have b1:=λ Y=>(L1 Y).1.2.1;have b2:=λ Y=>(L1 Y).1.2.2;obtain⟨r1,r2⟩:=HL.o.range x z;have aq:=Z_ (HL.o.eq x z);have HH:=Z_ hh;generalize cf x z=c at *;have ah:=Z_ LC;clear L0 L1 LC X hz hh;have q2:(h:Int)<(l:Int):=by omega
   have q3:(m:Int)<(l:Int):=by omega
   by_cases ae:c<0
   ·go_wp2;refine Zh (by kernel_rfl) (by kernel_rfl) ?_
    repeat (go_big_quiet_step (first|(go_at_call 105;exact uL (ah.o _))))
    refine wpQuiet_nil ?_;intro W2 U;clear a0 a1 a2 b0 b1 b2;have ag:=Z_ (HS.o.later U);clear U;go_wp2
    go_roundw
    case rel=>
     refine⟨i,h,rfl,rfl,ar,aA,by omega,HI,.inr ⟨z,HZ.o,?_⟩,ag.o⟩;rw[aq.o];exact decide_eq_false (by omega)
    case measure=>simp only[intOf];omega
   ·have q4:decide (c<0)=false:=decide_eq_false ae;have q5:c+1>0:=by omega
    have aC:=Z_ ae;clear ae;go_wp2;refine Zh (by kernel_rfl) (by kernel_rfl) ?_
    repeat (go_big_quiet_step (first|(go_at_call 105;exact uL (ah.o _))))
    refine wpQuiet_nil ?_;intro W2 U;clear a0 a1 a2 b0 b1 b2;have ag:=Z_ (HS.o.later U);clear U;go_wp2
    go_roundw
    case rel=>
     refine⟨h+1,j,by go_num,rfl,by omega,by omega,aF,.inr ⟨z,by rw[xD];exact HZ.o,?_⟩,HJ,ag.o⟩;rw[aq.o];exact decide_eq_true (by have:=aC.o;omega)
    case measure=>simp only[intOf];omega
  ·obtain rfl:i=j:=by omega
   obtain⟨t,ht⟩:∃t,t=i-a:=⟨_,rfl⟩
   have aB:t<=A.length:=by have:=HM.o;omega
   have I:∀k,k<A.length->cur[a+k]? = A[k]?:=λ k hk=>by
    rw[O.o];exact SQ HA.o hk
   have e1:=MJ HL.o.total hA (x:=x) (t:=t) (by
    rcases HI.o with h|⟨z,h1,h2⟩
    ·exact .inl (by omega)
    ·rcases(show t=0∨0<t by omega) with h0|h0
     ·exact .inl h0
     ·refine .inr ⟨z,?_,h2⟩;rw[<-I _ (by omega),<-h1]
      congr 1
      omega)
   have e2:=OP HL.o.total hA (x:=x) (t:=t) (by
    rcases HJ.o with h|⟨z,h1,h2⟩
    ·exact .inl (by have:=HM.o;omega)
    ·rcases(show t=A.length∨t<A.length by omega) with h0|h0
     ·exact .inl h0
     ·refine .inr ⟨z,?_,h2⟩;rw[<-I _ h0,<-h1]
      congr 1
      omega)
   have ad:=Rm e1 e2;rw[y_]at ad;have ax:=Z_ ad;have aj:(A.take t).length=t:=by rw[zD];omega
   have HB:=Z_ (y_ t A);generalize A.take t=A1 at *;generalize A.drop t=A2 at *;have ap:=Z_ aj;have HT:=Z_ ht;have ai:i=a+t:=by omega
   have al:=Z_ ai;have af:=HS.o;rw[O.o,<-HB.o]at af;have av:=Z_ af;have hil:i<=l:=by omega
   clear X I e1 e2 ad aj ht ai af aB;go_wp2
   go_loopw [17] (λ vk wr=>∃(k:Nat) (D J:List α),vk=.int .i64 k/\i<=k/\k<=m/\Hd (k=i+D.length)/\Hd (A2=D++J)/\SortAt (Z0 tc) 3 w b o (P++A1++D++x :: J++T) wr) (λ vk _=>(intOf vk).toNat-i)
   case atStart=>exact⟨m,A2,[],rfl,by omega,zR _,by have h1:=HM.o;have h2:=al.o;have h3:=ap.o;have h4:=congrArg List.length HB.o;simp at h4;show _=_;omega,by show _=_;simp,by simpa using av.o⟩
   case round=>
    obtain⟨k,D,J,rfl,hki,hkm,HK,aa,X⟩:=hrel;have HS:=Z_ X;clear X
    by_cases az:i<k
    ·rcases(show D=[]∨∃L z,D=L ++ [z] by simpa using List.eq_nil_or_concat D) with rfl|⟨D,y,rfl⟩
     ·exfalso
      have h3:=HK.o;simp at h3;omega
     ·have hk:=HK.o;obtain⟨K,rfl⟩:∃K,k=K+1:=⟨k-1,by omega⟩
      have Z:K=(P++A1++D).length:=by have h1:=al.o;have h2:=HA.o;have h3:=ap.o;simp at hk⊢;omega
      have g1:(P++A1++(D ++ [y])++x :: J++T)[K]? = some y:=by
       rw[Z,show P++A1++(D ++ [y])++x :: J++T=(P++A1++D)++y :: (x :: J++T) by simp];exact WL _ _ _
      have g0:(P++A1++(D ++ [y])++x :: J++T)[K+1]? = some x:=by
       rw[Z,show(P++A1++D).length+1=(P++A1++D ++ [y]).length by simp;omega,show P++A1++(D ++ [y])++x :: J++T=(P++A1++D ++ [y])++x :: (J++T) by simp];exact WL _ _ _
      obtain⟨⟨c0,c1,c2⟩,f0,f1,f2⟩:=HS.o.get3 g0;obtain⟨⟨d0,d1,d2⟩,k0,k1,k2⟩:=HS.o.get3 g1
      have HD:=Z_ (HS.o.swap3 g0 g1 (d':=P++A1++D++x :: y :: J++T) (by
       have e:=Oc (P++A1++D) [] (J++T) y x;rw[Z];simp only[zB,zc,yL,zo,zp]at e⊢
       exact e))
      clear g0 g1 hk Z;have q1:(K:Int)+1<(l:Int):=by omega
      have q2:(K:Int)<(l:Int):=by omega
      have q3:(0:Int)<=(K:Int)+1:=by omega
      have q5:((K:Int)+1).toNat=K+1:=by omega
      have q7:(i:Int)<(K:Int)+1:=by omega
      go_wp2
      go_big_region
      all_goals go_wp2
      go_roundw
      case rel=>
       refine⟨K,D,y :: J,rfl,by omega,by omega,?_,?_,?_⟩
       ·show _=_;have:=HK.o;simp at this;omega
       ·show _=_;rw[aa.o];simp
       ·have:=HD.o.drew;simpa using this
      case measure=>simp only[intOf];omega
    ·have aG:D=[]:=by
      have h3:=HK.o;exact zO.1 (by omega)
     subst aG
     have HF:Hd (SortAt (Z0 tc) 3 w b o (P++ZH le A [x]++T) wr):=by
      have:=HS.o;rw[ax.o,aa.o];exact Z_ (by simpa using this)
     go_wp2
     (try simp only[Exit.inBlock,Exit.then]);refine bodyPost_ret (results_none rfl _ _ _) rfl ?_
     exact⟨rfl,by first|(with_reducible exact HF.o)|(rw[<-zB];with_reducible exact HF.o)⟩
end
end
section
open Go.RowKit Go.Sort
def Wn(a m e d lo hi:Nat):Prop:=(d<m/\lo+e=d+m/\hi=d)∨(m<=d/\lo=a/\hi=m)
section
variable {α:Type} {le:α->α->Bool}
theorem MU(hl:TotalLe le){P A B T cur:List α}(hA:z1f le A)(hB:z1f le B)(hcur:cur=P++A++B++T){a m e d s f lo hi:Nat}(ha:a=P.length)(hm:m=a+A.length)(he:e=m+B.length)(hd:d=(a+e) / 2)
  (hg:Wn a m e d lo hi) (hls:lo<=s) (hsh:s<=hi) (hf:f+s=d+m)
  (h1:s=lo∨∃x z,cur[s-1]? = some x/\cur[f]? = some z/\le x z=true) (h2:s=hi∨∃x z,cur[s]? = some x/\cur[f-1]? = some z/\le x z=false) :
  ∃A1 A2 B1 B2,A=A1++A2/\B=B1++B2/\s=a+A1.length/\f=m+B1.length/\ZH le A B=ZH le A1 B1++ZH le A2 B2:=by
 have hsb:a<=s/\s<=m/\m<=f/\f<=e:=by unfold Wn at hg;omega
 have U:∀k,k<A.length->cur[a+k]? = A[k]?:=λ k Z=>by
  rw[hcur,zB];exact SQ ha Z
 have I:∀k,k<B.length->cur[m+k]? = B[k]?:=λ k Z=>by
  rw[hcur];exact SQ (by simp;omega) Z
 have hA1:(A.take (s-a)).length=s-a:=by rw[zD];omega
 have hB1:(B.take (f-m)).length=f-m:=by rw[zD];omega
 refine⟨A.take (s-a),A.drop (s-a),B.take (f-m),B.drop (f-m),(y_ _ _).symm,(y_ _ _).symm,by omega,by omega,?_⟩
 conv=>lhs;rw[<-y_ (s-a) A,<-y_ (f-m) B]
 refine Tx _ _ _ _ ?_ ?_
 ·intro x J y K;obtain⟨k,Z,X⟩:=SS J;obtain⟨k',aa,O⟩:=SN K;have hkB:=Zy O
  rcases h1 with h1|⟨x0,D,g1,g2,g3⟩
  ·unfold Wn at hg;omega
  ·have e1:A[s-a-1]? = some x0:=by rw[<-U _ (by omega),<-g1];congr 1;omega
   have e2:B[f-m]? = some D:=by rw[<-I _ (by omega),<-g2];congr 1;omega
   have:=MJ hl hA (x:=D) (t:=s-a) (.inr ⟨x0,e1,g3⟩) x J;exact Mn hl hB (x:=x) (t:=f-m) (.inr ⟨D,e2,this⟩) y K
 ·intro y K x J;obtain⟨k,Z,O⟩:=SS K;obtain⟨k',aa,X⟩:=SN J;have hkA:=Zy X
  rcases h2 with h2|⟨x0,D,g1,g2,g3⟩
  ·unfold Wn at hg;omega
  ·have e1:A[s-a]? = some x0:=by rw[<-U _ (by omega),<-g1];congr 1;omega
   have e2:B[f-m-1]? = some D:=by rw[<-I _ (by omega),<-g2];congr 1;omega
   have:=LH hl hB (x:=x0) (t:=f-m) (.inr ⟨D,e2,g3⟩) y K;exact OP hl hA (x:=y) (t:=s-a) (.inr ⟨x0,e1,this⟩) x J
end
section
variable {α:Type} [Inhabited α] {tc:α->TCell} {w:World} {b o:Nat} {cf:α->α->Int} {le:α->α->Bool}
theorem FE{cap l:Nat}{a m e:Nat}(P A B T:List α)(cur:List α)(W:World)(hc:Ya 105 tc cf w b)(hcl:CmpLe cf le)(hcur:cur=P++A++B++T)(hl:l=cur.length)(ha:a=P.length)(hm:m=a+A.length)(he:e=m+B.length)(hA2:2<=A.length)(hB2:2<=B.length)
  (ih:∀(P A' B' T cur:List α) (W:World) (l a m e:Nat),A'.length+B'.length<A.length+B.length->0<A'.length->0<B'.length->z1f le A'->z1f le B'->cur=P++A'++B'++T->l=cur.length->a=P.length->m=a+A'.length->e=m+B'.length->SortAt (Z0 tc) 3 w b o cur W->l<=cap->l<=1000000000000 ->
   Calls Tryz.prog 155 #[.slice (some ⟨b,o,none⟩) l cap,.int .i64 a,.int .i64 m,.int .i64 e,.func (.func 105) #[] #[]] W
    λ r w'=>r=.returned (.tuple #[])/\SortAt (Z0 tc) 3 w b o (P++ZH le A' B'++T) w')
  (h:SortAt (Z0 tc) 3 w b o cur W) (hA:z1f le A) (hB:z1f le B) (hcap:l<=cap) (hcap2:l<=1000000000000) :
  Calls Tryz.prog 155 #[.slice (some ⟨b,o,none⟩) l cap,.int .i64 a,.int .i64 m,.int .i64 e,.func (.func 105) #[] #[]] W
   λ r w'=>r=.returned (.tuple #[])/\SortAt (Z0 tc) 3 w b o (P++ZH le A B++T) w':=by
 have hnot:∀(x:Bool) (w:World),(Op.unary .not (.bool x)).run Tryz.prog w=.ok (.bool (!x)) w:=λ _ _=>rfl;have H:=Z_ h;have HC:=Z_ hc;have HL:=Z_ hcl;have ar:=Z_ ih;have av:=Z_ hcur;have aC:=Z_ hl;have HA:=Z_ ha;have hml:e<=l:=by rw[hl,hcur,he,hm,ha];simp;omega
 have hae:a+2<=m:=by omega
 have HM:=Z_ hm;have HE:=Z_ he;have hem:m+2<=e:=by omega
 have q0:((m:Int)-(a:Int) == 1)=false:=by rw[beq_eq_false_iff_ne];omega
 have q00:((e:Int)-(m:Int) == 1)=false:=by rw[beq_eq_false_iff_ne];omega
 obtain⟨d,hd⟩:∃d,d=(a+e) / 2:=⟨_,rfl⟩
 have q1:((a:Int)+(e:Int)) / 2=(d:Int):=by omega
 have HD:=Z_ hd;have had:a<d:=by omega
 have hde:d<e:=by omega
 have bu:2*d<=a+e/\a+e<=2*d+1:=by omega
 obtain⟨hd21,hd22⟩:=bu;clear h hc hcl hcur hl ha he hm hA2 hB2 ih hd
 have bf:(d<m/\∃lo:Nat,lo+e=d+m)∨m<=d:=by
  rcases(show d<m∨m<=d by omega) with h|h
  ·exact .inl ⟨h,d+m-e,by omega⟩
  ·exact .inr h
 rcases bf with ⟨aF,aP,bm⟩|aF
 ·have q2:(d:Int)+(m:Int)-(e:Int)=(aP:Int):=by omega
  have HG:Hd (Wn a m e d aP d):=.inl ⟨aF,bm,rfl⟩;have q3:(m:Int)>(d:Int):=by omega
  have aS:aP<=d:=by omega
  go_enter Tryz.func155,Tryz.ntmps155
  go_wp2
  go_loopw [20,21] (λ vi vj wr=>∃i j lo hi:Nat,vi=.int .i64 i/\vj=.int .i64 j/\Hd (Wn a m e d lo hi)/\lo<=i/\i<=j/\j<=hi/\Hd (i=lo∨∃x z,cur[i-1]? = some x/\cur[d+m-i]? = some z/\le x z=true)/\Hd (j=hi∨∃x z,cur[j]? = some x/\cur[d+m-j-1]? = some z/\le x z=false)/\SortAt (Z0 tc) 3 w b o cur wr) (λ vi vj _=>(intOf vj).toNat-(intOf vi).toNat)
  case atStart=>exact⟨aP,d,aP,d,rfl,rfl,HG,zR _,aS,zR _,.inl rfl,.inl rfl,H.o⟩
  case round=>
   clear HG q2 q3 aS bm aF;obtain⟨i,j,lo,hi,rfl,rfl,HG,ay,bg,aA,HI,HJ,hs⟩:=hrel;have HS:=Z_ hs;have hb:a<=lo/\hi<=m/\hi<=d/\d+m<=lo+e:=by have:=HG.o;unfold Wn at this;omega
   obtain⟨a7,a6,a5,bb⟩:=hb
   by_cases a8:i<j
   ·obtain⟨h,hh⟩:∃h,h=(i+j) / 2:=⟨_,rfl⟩
    have a9:i<=h:=by omega
    have bt:h<j:=by omega
    obtain⟨g,hg⟩:∃g,g=d+m-h-1:=⟨_,rfl⟩
    have bs:g<e:=by omega
    obtain⟨x,hx⟩:=ZN (l:=cur) (j:=h) (by rw[<-aC.o];omega);obtain⟨z,hz⟩:=ZN (l:=cur) (j:=g) (by rw[<-aC.o];omega);have HX:=Z_ hx;have HZ:=Z_ hz;have p1:((i:Int)+(j:Int)) / 2=(h:Int):=by omega
    have p2:(d:Int)+(m:Int)-1-(h:Int)=(g:Int):=by omega
    have p3:(g:Int)<(l:Int):=by omega
    have p4:(h:Int)<(l:Int):=by omega
    have L0:=λ Y:Later wr=>(hs.later Y.h).get3 hz;have L1:=λ Y:Later wr=>(hs.later Y.h).get3 hx;have LC:=λ Y:Later wr=>HC.o Y.w' (hs.later Y.h).grown z x;have a0:=λ Y=>(L0 Y).1.1;have a1:=λ Y=>(L0 Y).1.2.1;have a2:=λ Y=>(L0 Y).1.2.2;have b0:=λ Y=>(L1 Y).1.1;have b1:=λ Y=>(L1 Y).1.2.1;have b2:=λ Y=>(L1 Y).1.2.2;obtain⟨r1,r2⟩:=HL.o.range z x;have a4:=Z_ (HL.o.eq z x);have HH:=Z_ hh;have a3:=Z_ hg;generalize cf z x=c at *;have aG:=Z_ LC;clear L0 L1 LC hs hz hx hh hg
    by_cases az:c<0
    ·go_wp2;refine Zh (by kernel_rfl) (by kernel_rfl) ?_
     repeat (go_big_quiet_step (first|(go_at_call 105;exact uL (aG.o _))))
     refine wpQuiet_nil ?_;intro W2 au;clear a0 a1 a2 b0 b1 b2;have aB:=Z_ (HS.o.later au);clear au;go_wp2
     go_roundw
     case rel=>
      refine⟨i,h,lo,hi,rfl,rfl,HG,ay,a9,by omega,HI,.inr ⟨x,z,HX.o,by rw[<-a3.o];exact HZ.o,?_⟩,aB.o⟩;rw[a4.o];exact decide_eq_false (by omega)
     case measure=>simp only[intOf];omega
    ·have q4:decide (c<0)=false:=decide_eq_false az;have q5:c+1>0:=by omega
     have ba:=Z_ az;clear az;go_wp2;refine Zh (by kernel_rfl) (by kernel_rfl) ?_
     repeat (go_big_quiet_step (first|(go_at_call 105;exact uL (aG.o _))))
     refine wpQuiet_nil ?_;intro W2 au;clear a0 a1 a2 b0 b1 b2;have aB:=Z_ (HS.o.later au);clear au;go_wp2
     go_roundw
     case rel=>
      refine⟨h+1,j,lo,hi,by go_num,rfl,HG,by omega,by omega,aA,.inr ⟨x,z,by rw[xD];exact HX.o,by rw[show d+m-(h+1)=g by have:=a3.o;omega];exact HZ.o,?_⟩,HJ,aB.o⟩;rw[a4.o];exact decide_eq_true (by have:=ba.o;omega)
     case measure=>simp only[intOf];omega
   ·obtain rfl:i=j:=by omega
    obtain⟨f,hf⟩:∃f,f+i=d+m:=⟨d+m-i,by omega⟩
    obtain⟨Z,A2,B1,B2,ah,ag,aH,aN,aR⟩:=MU (f:=f) HL.o.total hA hB av.o HA.o HM.o HE.o HD.o HG.o ay aA hf (by
     have:=HI.o
     rwa [show d+m-i=f by omega]at this) (by
     have:=HJ.o
     rwa [show d+m-i-1=f-1 by omega]at this)
    have p1:(d:Int)+(m:Int)-(i:Int)=(f:Int):=by omega
    have lA:=HM.o;have lB:=HE.o;rw[ah]at lA;rw[ag]at lB;simp only[zI]at lA lB;have lP:=HA.o;have aj:=Z_ aR
    have ai:Hd (SortAt (Z0 tc) 3 w b o (P++Z++A2++B1++B2++T) wr):=Z_ (by
     have:=HS.o;rw[av.o,ah,ag]at this
     simpa using this)
    have af:Hd (l=P.length+Z.length+A2.length+B1.length+B2.length+T.length):=Z_ (by rw[aC.o,av.o,ah,ag];simp;omega);have aq:Hd (A.length=Z.length+A2.length/\B.length=B1.length+B2.length):=Z_ (by rw[ah,ag];simp)
    have ad:Hd (z1f le Z/\z1f le A2/\z1f le B1/\z1f le B2):=Z_ (by
     rw[ah]at hA;rw[ag]at hB;have h1:=ye.1 hA;have h2:=ye.1 hB
     exact⟨h1.1,h1.2.1,h2.1,h2.2.1⟩)
    have LP:=Z_ lP;have D:=Z_ (zS lA lB);have y:=Z_ (zS aH (zS aN hf));have bn:m<=l:=by omega
    have bl:f<=l:=by omega
    clear hs ah ag aR ay bg aA a7 a6 a5 bb a8 lA lB lP aH aN hf
    rcases(show(0<Z.length/\0<A2.length/\0<B1.length/\0<B2.length)∨(0<Z.length/\0<A2.length/\0<B1.length/\B2.length=0)∨(0<Z.length/\A2.length=0/\0<B1.length/\0<B2.length)∨(0<Z.length/\0<A2.length/\B1.length=0/\0<B2.length)∨(0<Z.length/\0<A2.length/\B1.length=0/\B2.length=0)∨(0<Z.length/\A2.length=0/\B1.length=0/\0<B2.length)∨(Z.length=0/\0<A2.length/\0<B1.length/\0<B2.length)∨(Z.length=0/\0<A2.length/\0<B1.length/\B2.length=0)∨(Z.length=0/\A2.length=0/\0<B1.length/\0<B2.length) by have:=D.o;have:=y.o;omega) with ⟨n1,n2,n3,n4⟩|⟨n1,n2,n3,n4⟩|⟨n1,n2,n3,n4⟩|⟨n1,n2,n3,n4⟩|⟨n1,n2,n3,n4⟩|⟨n1,n2,n3,n4⟩|⟨n1,n2,n3,n4⟩|⟨n1,n2,n3,n4⟩|⟨n1,n2,n3,n4⟩
    ·have f1:(i:Int)<(m:Int):=by have:=D.o;have:=y.o;omega
     have f2:(m:Int)<(f:Int):=by have:=D.o;have:=y.o;omega
     have f3:(a:Int)<(i:Int):=by have:=D.o;have:=y.o;omega
     have f4:(i:Int)<(d:Int):=by have:=D.o;have:=y.o;omega
     have f5:(d:Int)<(f:Int):=by have:=D.o;have:=y.o;omega
     have f6:(f:Int)<(e:Int):=by have:=D.o;have:=y.o;omega
     have ax:=Z_ (zS n2 n3);have K:=Z_ (zS n1 (zS n2 (zS n3 n4)));clear n1 n2 n3 n4;have C1:=Z_ (VC (tc:=tc) (cap:=cap) (l:=l) (za:=(i:Int)) (zm:=(m:Int)) (zb:=(f:Int)) (cv:=.func (.func 105) #[] #[]) (P++Z) A2 B1 (B2++T) wr (by simp) (by rw[af.o];simp;omega) (by have:=y.o;have:=LP.o;simp;omega) (by have:=y.o;have:=LP.o;have:=D.o;simp;omega) (by have:=y.o;have:=LP.o;have:=D.o;simp;omega) ai.o (by intro hn;have:=K.o;rw[hn]at this;simp at this) (by intro hn;have:=K.o;rw[hn]at this;simp at this) hcap hcap2);go_wp2_with fail;with_reducible refine C1.o.mono ?_;rintro r w1 ⟨rfl,ae⟩;have aa:Hd (SortAt (Z0 tc) 3 w b o (P++Z++B1++A2++B2++T) w1):=Z_ (by simpa using ae);clear ae;have C2:=Z_ (ar.o P Z B1 (A2++B2++T) _ w1 l a i d (by have:=K.o;have:=aq.o;omega) K.o.1 K.o.2.2.1 ad.o.1 ad.o.2.2.1 (by simp) (by rw[af.o];simp;omega) LP.o y.o.1 (by have:=y.o;have:=D.o;omega) aa.o hcap hcap2);go_wp2_with fail;with_reducible refine C2.o.mono ?_;rintro r w2 ⟨rfl,ap⟩;have ac:Hd (SortAt (Z0 tc) 3 w b o (P++ZH le Z B1++A2++B2++T) w2):=Z_ (by simpa using ap);clear ap;have C3:=Z_ (ar.o (P++ZH le Z B1) A2 B2 T _ w2 l d f e (by have:=K.o;have:=aq.o;omega) K.o.2.1 K.o.2.2.2 ad.o.2.1 ad.o.2.2.2 (by simp) (by rw[af.o];simp;omega) (by have:=y.o;have:=D.o;have:=LP.o;simp;omega) (by have:=y.o;have:=D.o;omega) (by have:=y.o;have:=D.o;omega) ac.o hcap hcap2);go_wp2_with fail;with_reducible refine C3.o.mono ?_;rintro r w3 ⟨rfl,al⟩;have X:Hd (SortAt (Z0 tc) 3 w b o (P++ZH le A B++T) w3):=Z_ (by rw[aj.o];simpa using al);clear al;go_wp2
     all_goals
      go_end0
      exact⟨rfl,by first|(with_reducible exact X.o)|(rw[<-zB];with_reducible exact X.o)⟩
    ·have f1:(i:Int)<(m:Int):=by have:=D.o;have:=y.o;omega
     have f2:(m:Int)<(f:Int):=by have:=D.o;have:=y.o;omega
     have f3:(a:Int)<(i:Int):=by have:=D.o;have:=y.o;omega
     have f4:(i:Int)<(d:Int):=by have:=D.o;have:=y.o;omega
     have f5:(d:Int)<(f:Int):=by have:=D.o;have:=y.o;omega
     have f6:(e:Int)<=(f:Int):=by have:=D.o;have:=y.o;omega
     have O:B2=[]:=zO.1 (by omega);have HZ:=Z_ (zS (rfl:0=0) O);clear O;have ax:=Z_ (zS n2 n3);have K:=Z_ (zS n1 (zS n2 (zS n3 n4)));clear n1 n2 n3 n4;have C1:=Z_ (VC (tc:=tc) (cap:=cap) (l:=l) (za:=(i:Int)) (zm:=(m:Int)) (zb:=(f:Int)) (cv:=.func (.func 105) #[] #[]) (P++Z) A2 B1 (B2++T) wr (by simp) (by rw[af.o];simp;omega) (by have:=y.o;have:=LP.o;simp;omega) (by have:=y.o;have:=LP.o;have:=D.o;simp;omega) (by have:=y.o;have:=LP.o;have:=D.o;simp;omega) ai.o (by intro hn;have:=K.o;rw[hn]at this;simp at this) (by intro hn;have:=K.o;rw[hn]at this;simp at this) hcap hcap2);go_wp2_with fail;with_reducible refine C1.o.mono ?_;rintro r w1 ⟨rfl,ae⟩;have aa:Hd (SortAt (Z0 tc) 3 w b o (P++Z++B1++A2++B2++T) w1):=Z_ (by simpa using ae);clear ae;have C2:=Z_ (ar.o P Z B1 (A2++B2++T) _ w1 l a i d (by have:=K.o;have:=aq.o;omega) K.o.1 K.o.2.2.1 ad.o.1 ad.o.2.2.1 (by simp) (by rw[af.o];simp;omega) LP.o y.o.1 (by have:=y.o;have:=D.o;omega) aa.o hcap hcap2);go_wp2_with fail;with_reducible refine C2.o.mono ?_;rintro r w2 ⟨rfl,ap⟩;have ac:Hd (SortAt (Z0 tc) 3 w b o (P++ZH le Z B1++A2++B2++T) w2):=Z_ (by simpa using ap);clear ap
     have X:Hd (SortAt (Z0 tc) 3 w b o (P++ZH le A B++T) w2):=Z_ (by
      have:=ac.o;rw[aj.o];obtain⟨-,O⟩:=HZ.o;subst O
      simpa[z0n,z0e]using this)
     go_wp2
     all_goals
      go_end0
      exact⟨rfl,by first|(with_reducible exact X.o)|(rw[<-zB];with_reducible exact X.o)⟩
    ·have f1:(m:Int)<=(i:Int):=by have:=D.o;have:=y.o;omega
     have f2:(m:Int)<(f:Int):=by have:=D.o;have:=y.o;omega
     have f3:(a:Int)<(i:Int):=by have:=D.o;have:=y.o;omega
     have f4:(i:Int)<(d:Int):=by have:=D.o;have:=y.o;omega
     have f5:(f:Int)<=(d:Int):=by have:=D.o;have:=y.o;omega
     have f6:(f:Int)<(e:Int):=by have:=D.o;have:=y.o;omega
     have J:A2=[]:=zO.1 (by omega);have HZ:=Z_ (zS (rfl:0=0) J);clear J;have K:=Z_ (zS n1 (zS n2 (zS n3 n4)));clear n1 n2 n3 n4
     have aa:Hd (SortAt (Z0 tc) 3 w b o (P++Z++B1++A2++B2++T) wr):=Z_ (by
      have:=ai.o;obtain⟨-,J⟩:=HZ.o;subst J
      simpa using this)
     have C2:=Z_ (ar.o P Z B1 (A2++B2++T) _ wr l a i d (by have:=K.o;have:=aq.o;omega) K.o.1 K.o.2.2.1 ad.o.1 ad.o.2.2.1 (by simp) (by rw[af.o];simp;omega) LP.o y.o.1 (by have:=y.o;have:=D.o;omega) aa.o hcap hcap2);go_wp2_with fail;with_reducible refine C2.o.mono ?_;rintro r w2 ⟨rfl,ap⟩;have ac:Hd (SortAt (Z0 tc) 3 w b o (P++ZH le Z B1++A2++B2++T) w2):=Z_ (by simpa using ap);clear ap
     have X:Hd (SortAt (Z0 tc) 3 w b o (P++ZH le A B++T) w2):=Z_ (by
      have:=ac.o;rw[aj.o];obtain⟨-,J⟩:=HZ.o;subst J
      simpa[z0n,z0e]using this)
     go_wp2
     all_goals
      go_end0
      exact⟨rfl,by first|(with_reducible exact X.o)|(rw[<-zB];with_reducible exact X.o)⟩
    ·have f1:(i:Int)<(m:Int):=by have:=D.o;have:=y.o;omega
     have f2:(f:Int)<=(m:Int):=by have:=D.o;have:=y.o;omega
     have f3:(a:Int)<(i:Int):=by have:=D.o;have:=y.o;omega
     have f4:(d:Int)<=(i:Int):=by have:=D.o;have:=y.o;omega
     have f5:(d:Int)<(f:Int):=by have:=D.o;have:=y.o;omega
     have f6:(f:Int)<(e:Int):=by have:=D.o;have:=y.o;omega
     have I:B1=[]:=zO.1 (by omega);have HZ:=Z_ (zS (rfl:0=0) I);clear I;have K:=Z_ (zS n1 (zS n2 (zS n3 n4)));clear n1 n2 n3 n4
     have aa:Hd (SortAt (Z0 tc) 3 w b o (P++Z++B1++A2++B2++T) wr):=Z_ (by
      have:=ai.o;obtain⟨-,I⟩:=HZ.o;subst I
      simpa using this)
     have ac:Hd (SortAt (Z0 tc) 3 w b o (P++ZH le Z B1++A2++B2++T) wr):=Z_ (by
      have:=aa.o;obtain⟨-,I⟩:=HZ.o;subst I
      simpa[z0n,z0e]using this)
     have C3:=Z_ (ar.o (P++ZH le Z B1) A2 B2 T _ wr l d f e (by have:=K.o;have:=aq.o;omega) K.o.2.1 K.o.2.2.2 ad.o.2.1 ad.o.2.2.2 (by simp) (by rw[af.o];simp;omega) (by have:=y.o;have:=D.o;have:=LP.o;simp;omega) (by have:=y.o;have:=D.o;omega) (by have:=y.o;have:=D.o;omega) ac.o hcap hcap2);go_wp2_with fail;with_reducible refine C3.o.mono ?_;rintro r w3 ⟨rfl,al⟩;have X:Hd (SortAt (Z0 tc) 3 w b o (P++ZH le A B++T) w3):=Z_ (by rw[aj.o];simpa using al);clear al;go_wp2
     all_goals
      go_end0
      exact⟨rfl,by first|(with_reducible exact X.o)|(rw[<-zB];with_reducible exact X.o)⟩
    ·have f1:(i:Int)<(m:Int):=by have:=D.o;have:=y.o;omega
     have f2:(f:Int)<=(m:Int):=by have:=D.o;have:=y.o;omega
     have f3:(a:Int)<(i:Int):=by have:=D.o;have:=y.o;omega
     have f4:(d:Int)<=(i:Int):=by have:=D.o;have:=y.o;omega
     have f5:(d:Int)<(f:Int):=by have:=D.o;have:=y.o;omega
     have f6:(e:Int)<=(f:Int):=by have:=D.o;have:=y.o;omega
     have I:B1=[]:=zO.1 (by omega);have O:B2=[]:=zO.1 (by omega);have HZ:=Z_ (zS (rfl:0=0) (zS I O));clear I;clear O;have K:=Z_ (zS n1 (zS n2 (zS n3 n4)));clear n1 n2 n3 n4
     have aa:Hd (SortAt (Z0 tc) 3 w b o (P++Z++B1++A2++B2++T) wr):=Z_ (by
      have:=ai.o;obtain⟨-,I,O⟩:=HZ.o;subst I O
      simpa using this)
     have ac:Hd (SortAt (Z0 tc) 3 w b o (P++ZH le Z B1++A2++B2++T) wr):=Z_ (by
      have:=aa.o;obtain⟨-,I,O⟩:=HZ.o;subst I O
      simpa[z0n,z0e]using this)
     have X:Hd (SortAt (Z0 tc) 3 w b o (P++ZH le A B++T) wr):=Z_ (by
      have:=ac.o;rw[aj.o];obtain⟨-,I,O⟩:=HZ.o;subst I O
      simpa[z0n,z0e]using this)
     go_wp2
     all_goals
      go_end0
      exact⟨rfl,by first|(with_reducible exact X.o)|(rw[<-zB];with_reducible exact X.o)⟩
    ·have f1:(m:Int)<=(i:Int):=by have:=D.o;have:=y.o;omega
     have f2:(f:Int)<=(m:Int):=by have:=D.o;have:=y.o;omega
     have f3:(a:Int)<(i:Int):=by have:=D.o;have:=y.o;omega
     have f4:(d:Int)<=(i:Int):=by have:=D.o;have:=y.o;omega
     have f5:(f:Int)<=(d:Int):=by have:=D.o;have:=y.o;omega
     have f6:(f:Int)<(e:Int):=by have:=D.o;have:=y.o;omega
     have J:A2=[]:=zO.1 (by omega);have I:B1=[]:=zO.1 (by omega);have HZ:=Z_ (zS (rfl:0=0) (zS J I));clear J;clear I;have K:=Z_ (zS n1 (zS n2 (zS n3 n4)));clear n1 n2 n3 n4
     have aa:Hd (SortAt (Z0 tc) 3 w b o (P++Z++B1++A2++B2++T) wr):=Z_ (by
      have:=ai.o;obtain⟨-,J,I⟩:=HZ.o;subst J I
      simpa using this)
     have ac:Hd (SortAt (Z0 tc) 3 w b o (P++ZH le Z B1++A2++B2++T) wr):=Z_ (by
      have:=aa.o;obtain⟨-,J,I⟩:=HZ.o;subst J I
      simpa[z0n,z0e]using this)
     have X:Hd (SortAt (Z0 tc) 3 w b o (P++ZH le A B++T) wr):=Z_ (by
      have:=ac.o;rw[aj.o];obtain⟨-,J,I⟩:=HZ.o;subst J I
      simpa[z0n,z0e]using this)
     go_wp2
     all_goals
      go_end0
      exact⟨rfl,by first|(with_reducible exact X.o)|(rw[<-zB];with_reducible exact X.o)⟩
    ·have f1:(i:Int)<(m:Int):=by have:=D.o;have:=y.o;omega
     have f2:(m:Int)<(f:Int):=by have:=D.o;have:=y.o;omega
     have f3:(i:Int)<=(a:Int):=by have:=D.o;have:=y.o;omega
     have f4:(i:Int)<(d:Int):=by have:=D.o;have:=y.o;omega
     have f5:(d:Int)<(f:Int):=by have:=D.o;have:=y.o;omega
     have f6:(f:Int)<(e:Int):=by have:=D.o;have:=y.o;omega
     have U:Z=[]:=zO.1 (by omega);have HZ:=Z_ (zS (rfl:0=0) U);clear U;have ax:=Z_ (zS n2 n3);have K:=Z_ (zS n1 (zS n2 (zS n3 n4)));clear n1 n2 n3 n4;have C1:=Z_ (VC (tc:=tc) (cap:=cap) (l:=l) (za:=(i:Int)) (zm:=(m:Int)) (zb:=(f:Int)) (cv:=.func (.func 105) #[] #[]) (P++Z) A2 B1 (B2++T) wr (by simp) (by rw[af.o];simp;omega) (by have:=y.o;have:=LP.o;simp;omega) (by have:=y.o;have:=LP.o;have:=D.o;simp;omega) (by have:=y.o;have:=LP.o;have:=D.o;simp;omega) ai.o (by intro hn;have:=K.o;rw[hn]at this;simp at this) (by intro hn;have:=K.o;rw[hn]at this;simp at this) hcap hcap2);go_wp2_with fail;with_reducible refine C1.o.mono ?_;rintro r w1 ⟨rfl,ae⟩;have aa:Hd (SortAt (Z0 tc) 3 w b o (P++Z++B1++A2++B2++T) w1):=Z_ (by simpa using ae);clear ae
     have ac:Hd (SortAt (Z0 tc) 3 w b o (P++ZH le Z B1++A2++B2++T) w1):=Z_ (by
      have:=aa.o;obtain⟨-,U⟩:=HZ.o;subst U
      simpa[z0n,z0e]using this)
     have C3:=Z_ (ar.o (P++ZH le Z B1) A2 B2 T _ w1 l d f e (by have:=K.o;have:=aq.o;omega) K.o.2.1 K.o.2.2.2 ad.o.2.1 ad.o.2.2.2 (by simp) (by rw[af.o];simp;omega) (by have:=y.o;have:=D.o;have:=LP.o;simp;omega) (by have:=y.o;have:=D.o;omega) (by have:=y.o;have:=D.o;omega) ac.o hcap hcap2);go_wp2_with fail;with_reducible refine C3.o.mono ?_;rintro r w3 ⟨rfl,al⟩;have X:Hd (SortAt (Z0 tc) 3 w b o (P++ZH le A B++T) w3):=Z_ (by rw[aj.o];simpa using al);clear al;go_wp2
     all_goals
      go_end0
      exact⟨rfl,by first|(with_reducible exact X.o)|(rw[<-zB];with_reducible exact X.o)⟩
    ·have f1:(i:Int)<(m:Int):=by have:=D.o;have:=y.o;omega
     have f2:(m:Int)<(f:Int):=by have:=D.o;have:=y.o;omega
     have f3:(i:Int)<=(a:Int):=by have:=D.o;have:=y.o;omega
     have f4:(i:Int)<(d:Int):=by have:=D.o;have:=y.o;omega
     have f5:(d:Int)<(f:Int):=by have:=D.o;have:=y.o;omega
     have f6:(e:Int)<=(f:Int):=by have:=D.o;have:=y.o;omega
     have U:Z=[]:=zO.1 (by omega);have O:B2=[]:=zO.1 (by omega);have HZ:=Z_ (zS (rfl:0=0) (zS U O));clear U;clear O;have ax:=Z_ (zS n2 n3);have K:=Z_ (zS n1 (zS n2 (zS n3 n4)));clear n1 n2 n3 n4;have C1:=Z_ (VC (tc:=tc) (cap:=cap) (l:=l) (za:=(i:Int)) (zm:=(m:Int)) (zb:=(f:Int)) (cv:=.func (.func 105) #[] #[]) (P++Z) A2 B1 (B2++T) wr (by simp) (by rw[af.o];simp;omega) (by have:=y.o;have:=LP.o;simp;omega) (by have:=y.o;have:=LP.o;have:=D.o;simp;omega) (by have:=y.o;have:=LP.o;have:=D.o;simp;omega) ai.o (by intro hn;have:=K.o;rw[hn]at this;simp at this) (by intro hn;have:=K.o;rw[hn]at this;simp at this) hcap hcap2);go_wp2_with fail;with_reducible refine C1.o.mono ?_;rintro r w1 ⟨rfl,ae⟩;have aa:Hd (SortAt (Z0 tc) 3 w b o (P++Z++B1++A2++B2++T) w1):=Z_ (by simpa using ae);clear ae
     have ac:Hd (SortAt (Z0 tc) 3 w b o (P++ZH le Z B1++A2++B2++T) w1):=Z_ (by
      have:=aa.o;obtain⟨-,U,O⟩:=HZ.o;subst U O
      simpa[z0n,z0e]using this)
     have X:Hd (SortAt (Z0 tc) 3 w b o (P++ZH le A B++T) w1):=Z_ (by
      have:=ac.o;rw[aj.o];obtain⟨-,U,O⟩:=HZ.o;subst U O
      simpa[z0n,z0e]using this)
     go_wp2
     all_goals
      go_end0
      exact⟨rfl,by first|(with_reducible exact X.o)|(rw[<-zB];with_reducible exact X.o)⟩
    ·have f1:(m:Int)<=(i:Int):=by have:=D.o;have:=y.o;omega
     have f2:(m:Int)<(f:Int):=by have:=D.o;have:=y.o;omega
     have f3:(i:Int)<=(a:Int):=by have:=D.o;have:=y.o;omega
     have f4:(i:Int)<(d:Int):=by have:=D.o;have:=y.o;omega
     have f5:(f:Int)<=(d:Int):=by have:=D.o;have:=y.o;omega
     have f6:(f:Int)<(e:Int):=by have:=D.o;have:=y.o;omega
     have U:Z=[]:=zO.1 (by omega);have J:A2=[]:=zO.1 (by omega);have HZ:=Z_ (zS (rfl:0=0) (zS U J));clear U;clear J;have K:=Z_ (zS n1 (zS n2 (zS n3 n4)));clear n1 n2 n3 n4
     have aa:Hd (SortAt (Z0 tc) 3 w b o (P++Z++B1++A2++B2++T) wr):=Z_ (by
      have:=ai.o;obtain⟨-,U,J⟩:=HZ.o;subst U J
      simpa using this)
     have ac:Hd (SortAt (Z0 tc) 3 w b o (P++ZH le Z B1++A2++B2++T) wr):=Z_ (by
      have:=aa.o;obtain⟨-,U,J⟩:=HZ.o;subst U J
      simpa[z0n,z0e]using this)
     have X:Hd (SortAt (Z0 tc) 3 w b o (P++ZH le A B++T) wr):=Z_ (by
      have:=ac.o;rw[aj.o];obtain⟨-,U,J⟩:=HZ.o;subst U J
      simpa[z0n,z0e]using this)
     go_wp2
     all_goals
      go_end0
      exact⟨rfl,by first|(with_reducible exact X.o)|(rw[<-zB];with_reducible exact X.o)⟩
 ·have q3:¬ (m:Int)>(d:Int):=by omega
  have HG:Hd (Wn a m e d a m):=.inr ⟨aF,rfl,rfl⟩;have aS:a<=m:=by omega
  go_enter Tryz.func155,Tryz.ntmps155
  go_wp2
  go_loopw [20,21] (λ vi vj wr=>∃i j lo hi:Nat,vi=.int .i64 i/\vj=.int .i64 j/\Hd (Wn a m e d lo hi)/\lo<=i/\i<=j/\j<=hi/\Hd (i=lo∨∃x z,cur[i-1]? = some x/\cur[d+m-i]? = some z/\le x z=true)/\Hd (j=hi∨∃x z,cur[j]? = some x/\cur[d+m-j-1]? = some z/\le x z=false)/\SortAt (Z0 tc) 3 w b o cur wr) (λ vi vj _=>(intOf vj).toNat-(intOf vi).toNat)
  case atStart=>exact⟨a,m,a,m,rfl,rfl,HG,zR _,aS,zR _,.inl rfl,.inl rfl,H.o⟩
  case round=>
   clear HG q3 aS aF;obtain⟨i,j,lo,hi,rfl,rfl,HG,ay,bg,aA,HI,HJ,hs⟩:=hrel;have HS:=Z_ hs;have hb:a<=lo/\hi<=m/\hi<=d/\d+m<=lo+e:=by have:=HG.o;unfold Wn at this;omega
   obtain⟨a7,a6,a5,bb⟩:=hb
   by_cases a8:i<j
   ·obtain⟨h,hh⟩:∃h,h=(i+j) / 2:=⟨_,rfl⟩
    have a9:i<=h:=by omega
    have bt:h<j:=by omega
    obtain⟨g,hg⟩:∃g,g=d+m-h-1:=⟨_,rfl⟩
    have bs:g<e:=by omega
    obtain⟨x,hx⟩:=ZN (l:=cur) (j:=h) (by rw[<-aC.o];omega);obtain⟨z,hz⟩:=ZN (l:=cur) (j:=g) (by rw[<-aC.o];omega);have HX:=Z_ hx;have HZ:=Z_ hz;have p1:((i:Int)+(j:Int)) / 2=(h:Int):=by omega
    have p2:(d:Int)+(m:Int)-1-(h:Int)=(g:Int):=by omega
    have p3:(g:Int)<(l:Int):=by omega
    have p4:(h:Int)<(l:Int):=by omega
    have L0:=λ Y:Later wr=>(hs.later Y.h).get3 hz;have L1:=λ Y:Later wr=>(hs.later Y.h).get3 hx;have LC:=λ Y:Later wr=>HC.o Y.w' (hs.later Y.h).grown z x;have a0:=λ Y=>(L0 Y).1.1;have a1:=λ Y=>(L0 Y).1.2.1;have a2:=λ Y=>(L0 Y).1.2.2;have b0:=λ Y=>(L1 Y).1.1;have b1:=λ Y=>(L1 Y).1.2.1;have b2:=λ Y=>(L1 Y).1.2.2;obtain⟨r1,r2⟩:=HL.o.range z x;have a4:=Z_ (HL.o.eq z x);have HH:=Z_ hh;have a3:=Z_ hg;generalize cf z x=c at *;have aG:=Z_ LC;clear L0 L1 LC hs hz hx hh hg
    by_cases az:c<0
    ·go_wp2;refine Zh (by kernel_rfl) (by kernel_rfl) ?_
     repeat (go_big_quiet_step (first|(go_at_call 105;exact uL (aG.o _))))
     refine wpQuiet_nil ?_;intro W2 au;clear a0 a1 a2 b0 b1 b2;have aB:=Z_ (HS.o.later au);clear au;go_wp2
     go_roundw
     case rel=>
      refine⟨i,h,lo,hi,rfl,rfl,HG,ay,a9,by omega,HI,.inr ⟨x,z,HX.o,by rw[<-a3.o];exact HZ.o,?_⟩,aB.o⟩;rw[a4.o];exact decide_eq_false (by omega)
     case measure=>simp only[intOf];omega
    ·have q4:decide (c<0)=false:=decide_eq_false az;have q5:c+1>0:=by omega
     have ba:=Z_ az;clear az;go_wp2;refine Zh (by kernel_rfl) (by kernel_rfl) ?_
     repeat (go_big_quiet_step (first|(go_at_call 105;exact uL (aG.o _))))
     refine wpQuiet_nil ?_;intro W2 au;clear a0 a1 a2 b0 b1 b2;have aB:=Z_ (HS.o.later au);clear au;go_wp2
     go_roundw
     case rel=>
      refine⟨h+1,j,lo,hi,by go_num,rfl,HG,by omega,by omega,aA,.inr ⟨x,z,by rw[xD];exact HX.o,by rw[show d+m-(h+1)=g by have:=a3.o;omega];exact HZ.o,?_⟩,HJ,aB.o⟩;rw[a4.o];exact decide_eq_true (by have:=ba.o;omega)
     case measure=>simp only[intOf];omega
   ·obtain rfl:i=j:=by omega
    obtain⟨f,hf⟩:∃f,f+i=d+m:=⟨d+m-i,by omega⟩
    obtain⟨Z,A2,B1,B2,ah,ag,aH,aN,aR⟩:=MU (f:=f) HL.o.total hA hB av.o HA.o HM.o HE.o HD.o HG.o ay aA hf (by
     have:=HI.o
     rwa [show d+m-i=f by omega]at this) (by
     have:=HJ.o
     rwa [show d+m-i-1=f-1 by omega]at this)
    have p1:(d:Int)+(m:Int)-(i:Int)=(f:Int):=by omega
    have lA:=HM.o;have lB:=HE.o;rw[ah]at lA;rw[ag]at lB;simp only[zI]at lA lB;have lP:=HA.o;have aj:=Z_ aR
    have ai:Hd (SortAt (Z0 tc) 3 w b o (P++Z++A2++B1++B2++T) wr):=Z_ (by
     have:=HS.o;rw[av.o,ah,ag]at this
     simpa using this)
    have af:Hd (l=P.length+Z.length+A2.length+B1.length+B2.length+T.length):=Z_ (by rw[aC.o,av.o,ah,ag];simp;omega);have aq:Hd (A.length=Z.length+A2.length/\B.length=B1.length+B2.length):=Z_ (by rw[ah,ag];simp)
    have ad:Hd (z1f le Z/\z1f le A2/\z1f le B1/\z1f le B2):=Z_ (by
     rw[ah]at hA;rw[ag]at hB;have h1:=ye.1 hA;have h2:=ye.1 hB
     exact⟨h1.1,h1.2.1,h2.1,h2.2.1⟩)
    have LP:=Z_ lP;have D:=Z_ (zS lA lB);have y:=Z_ (zS aH (zS aN hf));have bn:m<=l:=by omega
    have bl:f<=l:=by omega
    clear hs ah ag aR ay bg aA a7 a6 a5 bb a8 lA lB lP aH aN hf
    rcases(show(0<Z.length/\0<A2.length/\0<B1.length/\0<B2.length)∨(0<Z.length/\0<A2.length/\0<B1.length/\B2.length=0)∨(0<Z.length/\A2.length=0/\0<B1.length/\0<B2.length)∨(0<Z.length/\0<A2.length/\B1.length=0/\0<B2.length)∨(0<Z.length/\0<A2.length/\B1.length=0/\B2.length=0)∨(0<Z.length/\A2.length=0/\B1.length=0/\0<B2.length)∨(Z.length=0/\0<A2.length/\0<B1.length/\0<B2.length)∨(Z.length=0/\0<A2.length/\0<B1.length/\B2.length=0)∨(Z.length=0/\A2.length=0/\0<B1.length/\0<B2.length) by have:=D.o;have:=y.o;omega) with ⟨n1,n2,n3,n4⟩|⟨n1,n2,n3,n4⟩|⟨n1,n2,n3,n4⟩|⟨n1,n2,n3,n4⟩|⟨n1,n2,n3,n4⟩|⟨n1,n2,n3,n4⟩|⟨n1,n2,n3,n4⟩|⟨n1,n2,n3,n4⟩|⟨n1,n2,n3,n4⟩
    ·have f1:(i:Int)<(m:Int):=by have:=D.o;have:=y.o;omega
     have f2:(m:Int)<(f:Int):=by have:=D.o;have:=y.o;omega
     have f3:(a:Int)<(i:Int):=by have:=D.o;have:=y.o;omega
     have f4:(i:Int)<(d:Int):=by have:=D.o;have:=y.o;omega
     have f5:(d:Int)<(f:Int):=by have:=D.o;have:=y.o;omega
     have f6:(f:Int)<(e:Int):=by have:=D.o;have:=y.o;omega
     have ax:=Z_ (zS n2 n3);have K:=Z_ (zS n1 (zS n2 (zS n3 n4)));clear n1 n2 n3 n4;have C1:=Z_ (VC (tc:=tc) (cap:=cap) (l:=l) (za:=(i:Int)) (zm:=(m:Int)) (zb:=(f:Int)) (cv:=.func (.func 105) #[] #[]) (P++Z) A2 B1 (B2++T) wr (by simp) (by rw[af.o];simp;omega) (by have:=y.o;have:=LP.o;simp;omega) (by have:=y.o;have:=LP.o;have:=D.o;simp;omega) (by have:=y.o;have:=LP.o;have:=D.o;simp;omega) ai.o (by intro hn;have:=K.o;rw[hn]at this;simp at this) (by intro hn;have:=K.o;rw[hn]at this;simp at this) hcap hcap2);go_wp2_with fail;with_reducible refine C1.o.mono ?_;rintro r w1 ⟨rfl,ae⟩;have aa:Hd (SortAt (Z0 tc) 3 w b o (P++Z++B1++A2++B2++T) w1):=Z_ (by simpa using ae);clear ae;have C2:=Z_ (ar.o P Z B1 (A2++B2++T) _ w1 l a i d (by have:=K.o;have:=aq.o;omega) K.o.1 K.o.2.2.1 ad.o.1 ad.o.2.2.1 (by simp) (by rw[af.o];simp;omega) LP.o y.o.1 (by have:=y.o;have:=D.o;omega) aa.o hcap hcap2);go_wp2_with fail;with_reducible refine C2.o.mono ?_;rintro r w2 ⟨rfl,ap⟩;have ac:Hd (SortAt (Z0 tc) 3 w b o (P++ZH le Z B1++A2++B2++T) w2):=Z_ (by simpa using ap);clear ap;have C3:=Z_ (ar.o (P++ZH le Z B1) A2 B2 T _ w2 l d f e (by have:=K.o;have:=aq.o;omega) K.o.2.1 K.o.2.2.2 ad.o.2.1 ad.o.2.2.2 (by simp) (by rw[af.o];simp;omega) (by have:=y.o;have:=D.o;have:=LP.o;simp;omega) (by have:=y.o;have:=D.o;omega) (by have:=y.o;have:=D.o;omega) ac.o hcap hcap2);go_wp2_with fail;with_reducible refine C3.o.mono ?_;rintro r w3 ⟨rfl,al⟩;have X:Hd (SortAt (Z0 tc) 3 w b o (P++ZH le A B++T) w3):=Z_ (by rw[aj.o];simpa using al);clear al;go_wp2
     all_goals
      go_end0
      exact⟨rfl,by first|(with_reducible exact X.o)|(rw[<-zB];with_reducible exact X.o)⟩
    ·have f1:(i:Int)<(m:Int):=by have:=D.o;have:=y.o;omega
     have f2:(m:Int)<(f:Int):=by have:=D.o;have:=y.o;omega
     have f3:(a:Int)<(i:Int):=by have:=D.o;have:=y.o;omega
     have f4:(i:Int)<(d:Int):=by have:=D.o;have:=y.o;omega
     have f5:(d:Int)<(f:Int):=by have:=D.o;have:=y.o;omega
     have f6:(e:Int)<=(f:Int):=by have:=D.o;have:=y.o;omega
     have O:B2=[]:=zO.1 (by omega);have HZ:=Z_ (zS (rfl:0=0) O);clear O;have ax:=Z_ (zS n2 n3);have K:=Z_ (zS n1 (zS n2 (zS n3 n4)));clear n1 n2 n3 n4;have C1:=Z_ (VC (tc:=tc) (cap:=cap) (l:=l) (za:=(i:Int)) (zm:=(m:Int)) (zb:=(f:Int)) (cv:=.func (.func 105) #[] #[]) (P++Z) A2 B1 (B2++T) wr (by simp) (by rw[af.o];simp;omega) (by have:=y.o;have:=LP.o;simp;omega) (by have:=y.o;have:=LP.o;have:=D.o;simp;omega) (by have:=y.o;have:=LP.o;have:=D.o;simp;omega) ai.o (by intro hn;have:=K.o;rw[hn]at this;simp at this) (by intro hn;have:=K.o;rw[hn]at this;simp at this) hcap hcap2);go_wp2_with fail;with_reducible refine C1.o.mono ?_;rintro r w1 ⟨rfl,ae⟩;have aa:Hd (SortAt (Z0 tc) 3 w b o (P++Z++B1++A2++B2++T) w1):=Z_ (by simpa using ae);clear ae;have C2:=Z_ (ar.o P Z B1 (A2++B2++T) _ w1 l a i d (by have:=K.o;have:=aq.o;omega) K.o.1 K.o.2.2.1 ad.o.1 ad.o.2.2.1 (by simp) (by rw[af.o];simp;omega) LP.o y.o.1 (by have:=y.o;have:=D.o;omega) aa.o hcap hcap2);go_wp2_with fail;with_reducible refine C2.o.mono ?_;rintro r w2 ⟨rfl,ap⟩;have ac:Hd (SortAt (Z0 tc) 3 w b o (P++ZH le Z B1++A2++B2++T) w2):=Z_ (by simpa using ap);clear ap
     have X:Hd (SortAt (Z0 tc) 3 w b o (P++ZH le A B++T) w2):=Z_ (by
      have:=ac.o;rw[aj.o];obtain⟨-,O⟩:=HZ.o;subst O
      simpa[z0n,z0e]using this)
     go_wp2
     all_goals
      go_end0
      exact⟨rfl,by first|(with_reducible exact X.o)|(rw[<-zB];with_reducible exact X.o)⟩
    ·have f1:(m:Int)<=(i:Int):=by have:=D.o;have:=y.o;omega
     have f2:(m:Int)<(f:Int):=by have:=D.o;have:=y.o;omega
     have f3:(a:Int)<(i:Int):=by have:=D.o;have:=y.o;omega
     have f4:(i:Int)<(d:Int):=by have:=D.o;have:=y.o;omega
     have f5:(f:Int)<=(d:Int):=by have:=D.o;have:=y.o;omega
     have f6:(f:Int)<(e:Int):=by have:=D.o;have:=y.o;omega
     have J:A2=[]:=zO.1 (by omega);have HZ:=Z_ (zS (rfl:0=0) J);clear J;have K:=Z_ (zS n1 (zS n2 (zS n3 n4)));clear n1 n2 n3 n4
     have aa:Hd (SortAt (Z0 tc) 3 w b o (P++Z++B1++A2++B2++T) wr):=Z_ (by
      have:=ai.o;obtain⟨-,J⟩:=HZ.o;subst J
      simpa using this)
     have C2:=Z_ (ar.o P Z B1 (A2++B2++T) _ wr l a i d (by have:=K.o;have:=aq.o;omega) K.o.1 K.o.2.2.1 ad.o.1 ad.o.2.2.1 (by simp) (by rw[af.o];simp;omega) LP.o y.o.1 (by have:=y.o;have:=D.o;omega) aa.o hcap hcap2);go_wp2_with fail;with_reducible refine C2.o.mono ?_;rintro r w2 ⟨rfl,ap⟩;have ac:Hd (SortAt (Z0 tc) 3 w b o (P++ZH le Z B1++A2++B2++T) w2):=Z_ (by simpa using ap);clear ap
     have X:Hd (SortAt (Z0 tc) 3 w b o (P++ZH le A B++T) w2):=Z_ (by
      have:=ac.o;rw[aj.o];obtain⟨-,J⟩:=HZ.o;subst J
      simpa[z0n,z0e]using this)
     go_wp2
     all_goals
      go_end0
      exact⟨rfl,by first|(with_reducible exact X.o)|(rw[<-zB];with_reducible exact X.o)⟩
    ·have f1:(i:Int)<(m:Int):=by have:=D.o;have:=y.o;omega
     have f2:(f:Int)<=(m:Int):=by have:=D.o;have:=y.o;omega
     have f3:(a:Int)<(i:Int):=by have:=D.o;have:=y.o;omega
     have f4:(d:Int)<=(i:Int):=by have:=D.o;have:=y.o;omega
     have f5:(d:Int)<(f:Int):=by have:=D.o;have:=y.o;omega
     have f6:(f:Int)<(e:Int):=by have:=D.o;have:=y.o;omega
     have I:B1=[]:=zO.1 (by omega);have HZ:=Z_ (zS (rfl:0=0) I);clear I;have K:=Z_ (zS n1 (zS n2 (zS n3 n4)));clear n1 n2 n3 n4
     have aa:Hd (SortAt (Z0 tc) 3 w b o (P++Z++B1++A2++B2++T) wr):=Z_ (by
      have:=ai.o;obtain⟨-,I⟩:=HZ.o;subst I
      simpa using this)
     have ac:Hd (SortAt (Z0 tc) 3 w b o (P++ZH le Z B1++A2++B2++T) wr):=Z_ (by
      have:=aa.o;obtain⟨-,I⟩:=HZ.o;subst I
      simpa[z0n,z0e]using this)
     have C3:=Z_ (ar.o (P++ZH le Z B1) A2 B2 T _ wr l d f e (by have:=K.o;have:=aq.o;omega) K.o.2.1 K.o.2.2.2 ad.o.2.1 ad.o.2.2.2 (by simp) (by rw[af.o];simp;omega) (by have:=y.o;have:=D.o;have:=LP.o;simp;omega) (by have:=y.o;have:=D.o;omega) (by have:=y.o;have:=D.o;omega) ac.o hcap hcap2);go_wp2_with fail;with_reducible refine C3.o.mono ?_;rintro r w3 ⟨rfl,al⟩;have X:Hd (SortAt (Z0 tc) 3 w b o (P++ZH le A B++T) w3):=Z_ (by rw[aj.o];simpa using al);clear al;go_wp2
     all_goals
      go_end0
      exact⟨rfl,by first|(with_reducible exact X.o)|(rw[<-zB];with_reducible exact X.o)⟩
    ·have f1:(i:Int)<(m:Int):=by have:=D.o;have:=y.o;omega
     have f2:(f:Int)<=(m:Int):=by have:=D.o;have:=y.o;omega
     have f3:(a:Int)<(i:Int):=by have:=D.o;have:=y.o;omega
     have f4:(d:Int)<=(i:Int):=by have:=D.o;have:=y.o;omega
     have f5:(d:Int)<(f:Int):=by have:=D.o;have:=y.o;omega
     have f6:(e:Int)<=(f:Int):=by have:=D.o;have:=y.o;omega
     have I:B1=[]:=zO.1 (by omega);have O:B2=[]:=zO.1 (by omega);have HZ:=Z_ (zS (rfl:0=0) (zS I O));clear I;clear O;have K:=Z_ (zS n1 (zS n2 (zS n3 n4)));clear n1 n2 n3 n4
     have aa:Hd (SortAt (Z0 tc) 3 w b o (P++Z++B1++A2++B2++T) wr):=Z_ (by
      have:=ai.o;obtain⟨-,I,O⟩:=HZ.o;subst I O
      simpa using this)
     have ac:Hd (SortAt (Z0 tc) 3 w b o (P++ZH le Z B1++A2++B2++T) wr):=Z_ (by
      have:=aa.o;obtain⟨-,I,O⟩:=HZ.o;subst I O
      simpa[z0n,z0e]using this)
     have X:Hd (SortAt (Z0 tc) 3 w b o (P++ZH le A B++T) wr):=Z_ (by
      have:=ac.o;rw[aj.o];obtain⟨-,I,O⟩:=HZ.o;subst I O
      simpa[z0n,z0e]using this)
     go_wp2
     all_goals
      go_end0
      exact⟨rfl,by first|(with_reducible exact X.o)|(rw[<-zB];with_reducible exact X.o)⟩
    ·have f1:(m:Int)<=(i:Int):=by have:=D.o;have:=y.o;omega
     have f2:(f:Int)<=(m:Int):=by have:=D.o;have:=y.o;omega
     have f3:(a:Int)<(i:Int):=by have:=D.o;have:=y.o;omega
     have f4:(d:Int)<=(i:Int):=by have:=D.o;have:=y.o;omega
     have f5:(f:Int)<=(d:Int):=by have:=D.o;have:=y.o;omega
     have f6:(f:Int)<(e:Int):=by have:=D.o;have:=y.o;omega
     have J:A2=[]:=zO.1 (by omega);have I:B1=[]:=zO.1 (by omega);have HZ:=Z_ (zS (rfl:0=0) (zS J I));clear J;clear I;have K:=Z_ (zS n1 (zS n2 (zS n3 n4)));clear n1 n2 n3 n4
     have aa:Hd (SortAt (Z0 tc) 3 w b o (P++Z++B1++A2++B2++T) wr):=Z_ (by
      have:=ai.o;obtain⟨-,J,I⟩:=HZ.o;subst J I
      simpa using this)
     have ac:Hd (SortAt (Z0 tc) 3 w b o (P++ZH le Z B1++A2++B2++T) wr):=Z_ (by
      have:=aa.o;obtain⟨-,J,I⟩:=HZ.o;subst J I
      simpa[z0n,z0e]using this)
     have X:Hd (SortAt (Z0 tc) 3 w b o (P++ZH le A B++T) wr):=Z_ (by
      have:=ac.o;rw[aj.o];obtain⟨-,J,I⟩:=HZ.o;subst J I
      simpa[z0n,z0e]using this)
     go_wp2
     all_goals
      go_end0
      exact⟨rfl,by first|(with_reducible exact X.o)|(rw[<-zB];with_reducible exact X.o)⟩
    ·have f1:(i:Int)<(m:Int):=by have:=D.o;have:=y.o;omega
     have f2:(m:Int)<(f:Int):=by have:=D.o;have:=y.o;omega
     have f3:(i:Int)<=(a:Int):=by have:=D.o;have:=y.o;omega
     have f4:(i:Int)<(d:Int):=by have:=D.o;have:=y.o;omega
     have f5:(d:Int)<(f:Int):=by have:=D.o;have:=y.o;omega
     have f6:(f:Int)<(e:Int):=by have:=D.o;have:=y.o;omega
     have U:Z=[]:=zO.1 (by omega);have HZ:=Z_ (zS (rfl:0=0) U);clear U;have ax:=Z_ (zS n2 n3);have K:=Z_ (zS n1 (zS n2 (zS n3 n4)));clear n1 n2 n3 n4;have C1:=Z_ (VC (tc:=tc) (cap:=cap) (l:=l) (za:=(i:Int)) (zm:=(m:Int)) (zb:=(f:Int)) (cv:=.func (.func 105) #[] #[]) (P++Z) A2 B1 (B2++T) wr (by simp) (by rw[af.o];simp;omega) (by have:=y.o;have:=LP.o;simp;omega) (by have:=y.o;have:=LP.o;have:=D.o;simp;omega) (by have:=y.o;have:=LP.o;have:=D.o;simp;omega) ai.o (by intro hn;have:=K.o;rw[hn]at this;simp at this) (by intro hn;have:=K.o;rw[hn]at this;simp at this) hcap hcap2);go_wp2_with fail;with_reducible refine C1.o.mono ?_;rintro r w1 ⟨rfl,ae⟩;have aa:Hd (SortAt (Z0 tc) 3 w b o (P++Z++B1++A2++B2++T) w1):=Z_ (by simpa using ae);clear ae
     have ac:Hd (SortAt (Z0 tc) 3 w b o (P++ZH le Z B1++A2++B2++T) w1):=Z_ (by
      have:=aa.o;obtain⟨-,U⟩:=HZ.o;subst U
      simpa[z0n,z0e]using this)
     have C3:=Z_ (ar.o (P++ZH le Z B1) A2 B2 T _ w1 l d f e (by have:=K.o;have:=aq.o;omega) K.o.2.1 K.o.2.2.2 ad.o.2.1 ad.o.2.2.2 (by simp) (by rw[af.o];simp;omega) (by have:=y.o;have:=D.o;have:=LP.o;simp;omega) (by have:=y.o;have:=D.o;omega) (by have:=y.o;have:=D.o;omega) ac.o hcap hcap2);go_wp2_with fail;with_reducible refine C3.o.mono ?_;rintro r w3 ⟨rfl,al⟩;have X:Hd (SortAt (Z0 tc) 3 w b o (P++ZH le A B++T) w3):=Z_ (by rw[aj.o];simpa using al);clear al;go_wp2
     all_goals
      go_end0
      exact⟨rfl,by first|(with_reducible exact X.o)|(rw[<-zB];with_reducible exact X.o)⟩
    ·have f1:(i:Int)<(m:Int):=by have:=D.o;have:=y.o;omega
     have f2:(m:Int)<(f:Int):=by have:=D.o;have:=y.o;omega
     have f3:(i:Int)<=(a:Int):=by have:=D.o;have:=y.o;omega
     have f4:(i:Int)<(d:Int):=by have:=D.o;have:=y.o;omega
     have f5:(d:Int)<(f:Int):=by have:=D.o;have:=y.o;omega
     have f6:(e:Int)<=(f:Int):=by have:=D.o;have:=y.o;omega
     have U:Z=[]:=zO.1 (by omega);have O:B2=[]:=zO.1 (by omega);have HZ:=Z_ (zS (rfl:0=0) (zS U O));clear U;clear O;have ax:=Z_ (zS n2 n3);have K:=Z_ (zS n1 (zS n2 (zS n3 n4)));clear n1 n2 n3 n4;have C1:=Z_ (VC (tc:=tc) (cap:=cap) (l:=l) (za:=(i:Int)) (zm:=(m:Int)) (zb:=(f:Int)) (cv:=.func (.func 105) #[] #[]) (P++Z) A2 B1 (B2++T) wr (by simp) (by rw[af.o];simp;omega) (by have:=y.o;have:=LP.o;simp;omega) (by have:=y.o;have:=LP.o;have:=D.o;simp;omega) (by have:=y.o;have:=LP.o;have:=D.o;simp;omega) ai.o (by intro hn;have:=K.o;rw[hn]at this;simp at this) (by intro hn;have:=K.o;rw[hn]at this;simp at this) hcap hcap2);go_wp2_with fail;with_reducible refine C1.o.mono ?_;rintro r w1 ⟨rfl,ae⟩;have aa:Hd (SortAt (Z0 tc) 3 w b o (P++Z++B1++A2++B2++T) w1):=Z_ (by simpa using ae);clear ae
     have ac:Hd (SortAt (Z0 tc) 3 w b o (P++ZH le Z B1++A2++B2++T) w1):=Z_ (by
      have:=aa.o;obtain⟨-,U,O⟩:=HZ.o;subst U O
      simpa[z0n,z0e]using this)
     have X:Hd (SortAt (Z0 tc) 3 w b o (P++ZH le A B++T) w1):=Z_ (by
      have:=ac.o;rw[aj.o];obtain⟨-,U,O⟩:=HZ.o;subst U O
      simpa[z0n,z0e]using this)
     go_wp2
     all_goals
      go_end0
      exact⟨rfl,by first|(with_reducible exact X.o)|(rw[<-zB];with_reducible exact X.o)⟩
    ·have f1:(m:Int)<=(i:Int):=by have:=D.o;have:=y.o;omega
     have f2:(m:Int)<(f:Int):=by have:=D.o;have:=y.o;omega
     have f3:(i:Int)<=(a:Int):=by have:=D.o;have:=y.o;omega
     have f4:(i:Int)<(d:Int):=by have:=D.o;have:=y.o;omega
     have f5:(f:Int)<=(d:Int):=by have:=D.o;have:=y.o;omega
     have f6:(f:Int)<(e:Int):=by have:=D.o;have:=y.o;omega
     have U:Z=[]:=zO.1 (by omega);have J:A2=[]:=zO.1 (by omega);have HZ:=Z_ (zS (rfl:0=0) (zS U J));clear U;clear J;have K:=Z_ (zS n1 (zS n2 (zS n3 n4)));clear n1 n2 n3 n4
     have aa:Hd (SortAt (Z0 tc) 3 w b o (P++Z++B1++A2++B2++T) wr):=Z_ (by
      have:=ai.o;obtain⟨-,U,J⟩:=HZ.o;subst U J
      simpa using this)
     have ac:Hd (SortAt (Z0 tc) 3 w b o (P++ZH le Z B1++A2++B2++T) wr):=Z_ (by
      have:=aa.o;obtain⟨-,U,J⟩:=HZ.o;subst U J
      simpa[z0n,z0e]using this)
     have X:Hd (SortAt (Z0 tc) 3 w b o (P++ZH le A B++T) wr):=Z_ (by
      have:=ac.o;rw[aj.o];obtain⟨-,U,J⟩:=HZ.o;subst U J
      simpa[z0n,z0e]using this)
     go_wp2
     all_goals
      go_end0
      exact⟨rfl,by first|(with_reducible exact X.o)|(rw[<-zB];with_reducible exact X.o)⟩
theorem Gw(hc:Ya 105 tc cf w b)(hcl:CmpLe cf le){cap:Nat}:∀(N:Nat) (P A B T cur:List α) (W:World) (l a m e:Nat),A.length+B.length<N->0<A.length->0<B.length->z1f le A->z1f le B->cur=P++A++B++T->l=cur.length->a=P.length->m=a+A.length->e=m+B.length->SortAt (Z0 tc) 3 w b o cur W->l<=cap->l<=1000000000000 ->
   Calls Tryz.prog 155 #[.slice (some ⟨b,o,none⟩) l cap,.int .i64 a,.int .i64 m,.int .i64 e,.func (.func 105) #[] #[]] W
    λ r w'=>r=.returned (.tuple #[])/\SortAt (Z0 tc) 3 w b o (P++ZH le A B++T) w':=by
 intro N
 induction N with
 |zero=>intro P A B T cur W l a m e J;omega
 |succ N ih=>
  intro P A B T cur W l a m e J aa ac U X z Z ha K O h I D
  match A,aa,U,z,K,J with
  | [x],_,U,z,K,J=>exact Em P B T x cur W hc hcl (by rw[z];simp) Z ha (by simpa using K) (by rw[O,K];simp) h X I D
  |x :: x' :: A,_,U,z,K,J=>
   match B,ac,X,z,O,J with
   | [y],_,X,z,O,J=>exact IC P (x :: x' :: A) T y cur W hc hcl (by rw[z];simp) Z ha K (by simpa using O) (by simp) h U I D
   |y :: y' :: B,_,X,z,O,J=>
    exact FE P (x :: x' :: A) (y :: y' :: B) T cur W hc hcl z Z ha K O (by simp) (by simp) (λ P A' B' T cur W l a m e hlt=>ih P A' B' T cur W l a m e (by omega)) h U X I D
end
end
end Go.Proofs.YtlbohjnfkhemlaaGreat
