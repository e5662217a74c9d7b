/- The stable sort in place, at terms: blocks of twenty, then merges. -/
import Derived.Lib.SmallJoins
import Derived.Test.YtlbohjnfkhemlaaGreatTp6
set_option maxRecDepth 100000
set_option maxHeartbeats 16000000
namespace Go.Proofs.YtlbohjnfkhemlaaGreat
section
open Go.RowKit Go.Sort
section
variable {α:Type} {le:α->α->Bool}
inductive Blk (le:α->α->Bool) (s:Nat):List α->List α->Prop where
 |nil:Blk le s [] []
 |last (X:List α) (h0:0<X.length) (h:X.length<=s):Blk le s (Y9 le X) X
 |cons (X R O:List α) (h:X.length=s) (t:Blk le s R O):Blk le s (Y9 le X++R) (X++O)
inductive Full (le:α->α->Bool) (s:Nat):List α->List α->Prop where
 |nil:Full le s [] []
 |cons (X R O:List α) (h:X.length=s) (t:Full le s R O):Full le s (Y9 le X++R) (X++O)
theorem Blk.len{s:Nat}{R O:List α}(h:Blk le s R O):R.length=O.length:=by
 induction h with
 |nil=>rfl
 |last X _ _=>exact z1g X
 |cons X R O h t ih=>simp[z1g,ih]
theorem Full.len{s:Nat}{R O:List α}(h:Full le s R O):R.length=O.length:=by
 induction h with
 |nil=>rfl
 |cons X R O h t ih=>simp[z1g,ih]
theorem Full.snoc{s:Nat}{R O X:List α}(h:Full le s R O)(hX:X.length=s):Full le s (R++Y9 le X) (O++X):=by
 induction h with
 |nil=>
  have:=Full.cons (le:=le) X [] [] hX Full.nil;simpa using this
 |cons Y R O h t ih=>
  have:=Full.cons Y _ _ h ih;simpa using this
theorem Full.blk{s:Nat}{R O R2 O2:List α}(h:Full le s R O)(h2:Blk le s R2 O2):Blk le s (R++R2) (O++O2):=by
 induction h with
 |nil=>exact h2
 |cons Y R O h t ih=>
  have:=Blk.cons Y _ _ h ih;simpa using this
theorem Blk.two{s:Nat}{R O:List α}(h:Blk le s R O)(hs:0<s)(h2:s+s<=R.length):∃X Y R' O',R=Y9 le X++(Y9 le Y++R')/\O=X++(Y++O')/\X.length=s/\Y.length=s/\Blk le s R' O':=by
 cases h with
 |nil=>simp at h2;omega
 |last X h0 h=>rw[z1g]at h2;omega
 |cons X R O h t=>
  simp only[zI,z1g]at h2
  cases t with
  |nil=>simp at h2;omega
  |last Y h0 h'=>
   rw[z1g]at h2;exact⟨X,O,[],[],by simp,by simp,h,by omega,.nil⟩
  |cons Y R O h' t=>exact⟨X,Y,R,O,rfl,rfl,h,h',t⟩
theorem Blk.part{s:Nat}{R O:List α}(h:Blk le s R O)(_hs:0<s)(h1:s<R.length)(h2:R.length<s+s):∃X Y,R=Y9 le X++Y9 le Y/\O=X++Y/\X.length=s/\0<Y.length:=by
 cases h with
 |nil=>simp at h1
 |last X h0 h=>rw[z1g]at h1;omega
 |cons X R O h t=>
  simp only[zI,z1g]at h1 h2
  cases t with
  |nil=>simp at h1;omega
  |last Y h0 h'=>exact⟨X,O,rfl,rfl,h,h0⟩
  |cons Y R O h' t=>simp[z1g]at h2;omega
theorem Blk.one{s:Nat}{R O:List α}(h:Blk le s R O)(h1:R.length<=s):R=Y9 le O:=by
 cases h with
 |nil=>rfl
 |last X h0 h=>rfl
 |cons X R O h t=>
  simp only[zI,z1g]at h1;obtain rfl:R=[]:=zO.1 (by omega);have:=t.len;obtain rfl:O=[]:=zO.1 (by simpa using this.symm);simp
theorem Blk.of_sort{s:Nat}{O:List α}(h:O.length<=s):Blk le s (Y9 le O) O:=by
 rcases zj O.length with h0|h0
 ·obtain rfl:=zO.1 h0;exact .nil
 ·exact .last O h0 h
end
section
variable {α:Type} [Inhabited α] {tc:α->TCell} {w:World} {b o:Nat} {cf:α->α->Int} {le:α->α->Bool}
theorem LE{cap l:Nat}{za zb:Int}{cur:List α}(P X T:List α)(W:World)(hc:Ya 105 tc cf w b)(hcl:CmpLe cf le)(hcur:cur=P++X++T)(hl:l=cur.length)(hza:za=P.length)(hzb:zb=P.length+X.length)(h:SortAt (Z0 tc) 3 w b o cur W)(hcap:l<=cap)(hcap2:l<=1000000000000) :
  Calls Tryz.prog 154 #[.slice (some ⟨b,o,none⟩) l cap,.int .i64 za,.int .i64 zb,.func (.func 105) #[] #[]] W
   λ e w'=>e=.returned (.tuple #[])/\SortAt (Z0 tc) 3 w b o (P++Y9 le X++T) w':=by
 subst hcur hl hza;obtain rfl:zb=((P.length+X.length:Nat):Int):=by rw[hzb];omega
 exact Ac cap P X T W hc hcl h hcap hcap2
theorem Pn(hc:Ya 105 tc cf w b)(hcl:CmpLe cf le){cap l:Nat}(hcap2:l<=1000000000000){za zm ze:Int}{cur:List α}(P A B T:List α)(W:World)(hA0:0<A.length)(hB0:0<B.length)(hA:z1f le A)(hB:z1f le B)(hcur:cur=P++A++B++T)(hl:l=cur.length)(hza:za=P.length)(hzm:zm=P.length+A.length)(hze:ze=P.length+A.length+B.length)
  (h:SortAt (Z0 tc) 3 w b o cur W) (hcap:l<=cap) :
   Calls Tryz.prog 155 #[.slice (some ⟨b,o,none⟩) l cap,.int .i64 za,.int .i64 zm,.int .i64 ze,.func (.func 105) #[] #[]] W
    λ r w'=>r=.returned (.tuple #[])/\SortAt (Z0 tc) 3 w b o (P++ZH le A B++T) w':=by
 subst hza;obtain rfl:zm=((P.length+A.length:Nat):Int):=by rw[hzm];omega
 obtain rfl:ze=((P.length+A.length+B.length:Nat):Int):=by rw[hze];omega
 exact Gw hc hcl _ P A B T cur W l _ _ _ (zk _) hA0 hB0 hA hB hcur hl rfl rfl rfl h hcap hcap2
theorem F5{cap n:Nat}(L:List α)(W:World)(hc:Ya 105 tc cf w b)(hcl:CmpLe cf le)(hl:n=L.length)(h:SortAt (Z0 tc) 3 w b o L W)(hcap:n<=cap)(hcap2:n<=1000000000000) :
  Calls Tryz.prog 131 #[.slice (some ⟨b,o,none⟩) n cap,.int .i64 n,.func (.func 105) #[] #[]] W
   λ e w'=>e=.returned (.tuple #[])/\SortAt (Z0 tc) 3 w b o (Y9 le L) w':=by
 have H:=Z_ h;have HC:=Z_ hc;have HL:=Z_ hcl;have HN:=Z_ hl;clear h hc hcl hl
 go_enter Tryz.func131,Tryz.ntmps131
 go_wp2
 go_loopw [7,8] (λ va vb wr=>∃(a c:Nat) (S O R:List α),va=.int .i64 a/\vb=.int .i64 c/\a<=n/\Hd (c=a+20)/\c<=n+20/\Hd (a=O.length)/\Hd (L=O++R)/\Hd (Full le 20 S O)/\SortAt (Z0 tc) 3 w b o (S++R) wr) (λ va vb _=>n-(intOf va).toNat)
 case atStart=>exact⟨0,20,[],[],L,rfl,rfl,by omega,rfl,by omega,rfl,rfl,.nil,H.o⟩
 case round=>
  obtain⟨a,c,S,O,R,rfl,rfl,ag,y,af,J,K,I,hs⟩:=hrel;have HS:=Z_ hs;clear hs;have hn:n=O.length+R.length:=by have:=HN.o;rw[K.o]at this;simpa using this
  have hcl:n=(S++R).length:=by rw[hn];simp[I.o.len]
  have aa:=Z_ hcl;have z:=Z_ hn;clear hn hcl
  by_cases ac:c<=n
  ·obtain⟨X,R',hX,ad⟩:∃X R',R=X++R'/\X.length=20:=⟨R.take 20,R.drop 20,(y_ _ _).symm,by have:=z.o;have:=J.o;have:=y.o;rw[zD];omega⟩
   subst hX;have HX:=Z_ ad;have C:=Z_ (LE (cap:=cap) (l:=n) (za:=(a:Int)) (zb:=(c:Int)) S X R' wr HC.o HL.o (by simp) aa.o (by rw[I.o.len];have:=J.o;omega) (by rw[I.o.len];have:=J.o;have:=y.o;omega) HS.o hcap hcap2);clear ad;go_wp2_with fail;(with_reducible refine C.o.mono ?_);rintro e w2 ⟨rfl,D⟩;have U:=Z_ D;clear D;go_wp2
   go_roundw
   case rel=>
    refine⟨c,c+20,S++Y9 le X,O++X,R',rfl,by go_num,ac,rfl,by omega,?_,?_,?_,?_⟩
    ·show _=_;have:=J.o;have:=HX.o;have:=y.o;simp;omega
    ·show _=_;rw[K.o];simp
    ·exact I.o.snoc HX.o
    ·exact U.o
   case measure=>have:=y.o;simp only[intOf];omega
  ·have C:=Z_ (LE (cap:=cap) (l:=n) (za:=(a:Int)) (zb:=(n:Int)) S R [] wr HC.o HL.o (by simp) aa.o (by rw[I.o.len];have:=J.o;omega) (by rw[I.o.len];have:=z.o;omega) HS.o hcap hcap2);go_wp2_with fail;(with_reducible refine C.o.mono ?_);rintro e w2 ⟨rfl,D⟩;have U:=Z_ D
   have Z:Hd (Blk le 20 (S++Y9 le R) L):=Z_ (by
    rw[K.o]
    exact I.o.blk (.of_sort (by have:=z.o;have:=J.o;have:=y.o;omega)))
   clear D;go_wp2
   go_loopw [6,7,8,9] (λ vs va vb vm wr=>∃(s:Nat) (za zb:Int) (cur:List α),vs=.int .i64 s/\va=.int .i64 za/\vb=.int .i64 zb/\20<=s/\s<=n+n+20/\Hd (Blk le s cur L)/\SortAt (Z0 tc) 3 w b o cur wr) (λ vs _ _ _ _=>n-(intOf vs).toNat)
   case atStart=>exact⟨20,a,c,_,rfl,rfl,rfl,by omega,by omega,Z,by have:=U.o;simpa using this⟩
   case round=>
    clear Z U HS I K aa z y J ac af ag;obtain⟨s,za,zb,cur,rfl,rfl,rfl,hs20,hsn,Z,hs⟩:=hrel;have HS:=Z_ hs;clear hs
    by_cases ac:s<n
    ·have ah:Hd (n=cur.length):=Z_ (by rw[HN.o,Z.o.len]);go_wp2
     go_loopw [7,8] (λ va vb wr=>∃(a c:Nat) (S O R O2:List α),va=.int .i64 a/\vb=.int .i64 c/\a<=n/\Hd (c=a+(s+s))/\c<=n+s+s/\Hd (a=O.length)/\Hd (L=O++O2)/\Hd (Full le (s+s) S O)/\Hd (Blk le s R O2)/\SortAt (Z0 tc) 3 w b o (S++R) wr) (λ va vb _=>n-(intOf va).toNat)
     case atStart=>exact⟨0,s+s,[],[],cur,L,rfl,by congr 1;omega,by omega,by show _=_;omega,by omega,rfl,rfl,.nil,Z,HS.o⟩
     case round=>
      clear ah HS Z;obtain⟨a,c,S,O,R,O2,rfl,rfl,ag,y,af,J,K,I,Z,hs⟩:=hrel;have HS:=Z_ hs;clear hs;have hn:n=O.length+O2.length:=by have:=HN.o;rw[K.o]at this;simpa using this
      have hcl:n=(S++R).length:=by rw[hn];simp[I.o.len,Z.o.len]
      have aa:=Z_ hcl;have z:=Z_ hn;clear hn hcl
      by_cases ac:c<=n
      ·obtain⟨X,Y,R',O',hR,hO,hX,hY,hB⟩:=Z.o.two (by omega) (by rw[Z.o.len];have:=z.o;have:=J.o;have:=y.o;omega);have HX:=Z_ (zS hX hY);have HO:=Z_ hO;have ai:=Z_ hB;have C:=Z_ (Pn HC.o HL.o (cap:=cap) (l:=n) hcap2 (za:=(a:Int)) (zm:=(a:Int)+(s:Int)) (ze:=(c:Int)) (cur:=S++R) S (Y9 le X) (Y9 le Y) R' wr (by rw[z1g];omega) (by rw[z1g];omega) (TU HL.o.total X) (TU HL.o.total Y) (by rw[hR];simp) aa.o (by rw[I.o.len];have:=J.o;omega) (by rw[I.o.len,z1g];have:=J.o;omega) (by rw[I.o.len,z1g,z1g];have:=J.o;have:=y.o;omega) HS.o hcap);clear hR hO hX hY hB;go_wp2_with fail;(with_reducible refine C.o.mono ?_);rintro e w2 ⟨rfl,D⟩;have U:=Z_ D;clear D;go_wp2
       go_roundw
       case rel=>
        refine⟨c,c+(s+s),S++Y9 le (X++Y),O++(X++Y),R',O',rfl,by congr 1;omega,ac,rfl,by omega,?_,?_,?_,ai,?_⟩
        ·show _=_;have:=J.o;have:=HX.o;have:=y.o;simp;omega
        ·show _=_;rw[K.o,HO.o];simp
        ·exact I.o.snoc (by have:=HX.o;simp;omega)
        ·rw[Sl HL.o.total];exact U.o
       case measure=>have:=y.o;simp only[intOf];omega
      ·by_cases hm:a+s<n
       ·obtain⟨X,Y,hR,hO,hX,hY⟩:=Z.o.part (by omega) (by rw[Z.o.len];have:=z.o;have:=J.o;omega) (by rw[Z.o.len];have:=z.o;have:=J.o;have:=y.o;omega);have C:=Z_ (Pn HC.o HL.o (cap:=cap) (l:=n) hcap2 (za:=(a:Int)) (zm:=(a:Int)+(s:Int)) (ze:=(n:Int)) (cur:=S++R) S (Y9 le X) (Y9 le Y) [] wr (by rw[z1g];omega) (by rw[z1g];omega) (TU HL.o.total X) (TU HL.o.total Y) (by rw[hR];simp) aa.o (by rw[I.o.len];have:=J.o;omega) (by rw[I.o.len,z1g];have:=J.o;omega) (by rw[I.o.len,z1g,z1g];have h1:=z.o;rw[hO]at h1;simp at h1;omega) HS.o hcap)
        have ae:Hd (Blk le (s+s) (S++ZH le (Y9 le X) (Y9 le Y)) L):=Z_ (by
         rw[K.o,hO,<-Sl HL.o.total];refine I.o.blk (.of_sort ?_);have h1:=z.o;have h2:=J.o;have h3:=y.o;rw[hO]at h1
         omega)
        clear hR hO hX hY;have q1:(a:Int)+(s:Int)<(n:Int):=by omega
        go_wp2_with fail;(with_reducible refine C.o.mono ?_);rintro e w2 ⟨rfl,D⟩;have U:=Z_ D;clear D;go_wp2
        go_roundw
        case rel=>exact⟨s+s,_,_,_,by congr 1;omega,rfl,rfl,by omega,by omega,ae,by have:=U.o;simpa using this⟩
        case measure=>simp only[intOf];omega
       ·have ae:Hd (Blk le (s+s) (S++R) L):=Z_ (by
         rw[Z.o.one (by rw[Z.o.len];have:=z.o;have:=J.o;omega),K.o];refine I.o.blk (.of_sort ?_);have h1:=z.o;have h2:=J.o
         omega)
        have q1:(n:Int)<=(a:Int)+(s:Int):=by omega
        go_wp2
        go_roundw
        case rel=>exact⟨s+s,_,_,_,by congr 1;omega,rfl,rfl,by omega,by omega,ae,HS.o⟩
        case measure=>simp only[intOf];omega
    ·have I:Hd (SortAt (Z0 tc) 3 w b o (Y9 le L) wr):=Z_ (by
      have:=Z.o.one (by rw[Z.o.len,<-HN.o];omega);rw[<-this]
      exact HS.o)
     go_wp2
     go_end0
     exact⟨rfl,I.o⟩
theorem JQ{cap n:Nat}(L:List α)(W:World)(hc:Ya 105 tc cf w b)(hcl:CmpLe cf le)(hl:n=L.length)(h:SortAt (Z0 tc) 3 w b o L W)(hcap:n<=cap)(hcap2:n<=1000000000000) :
  Calls Tryz.prog 104 #[.slice (some ⟨b,o,none⟩) n cap,.func (.func 105) #[] #[]] W
   λ e w'=>e=.returned (.tuple #[])/\SortAt (Z0 tc) 3 w b o (Y9 le L) w':=by
 have C:=Z_ (F5 L W hc hcl hl h hcap hcap2);clear hc hcl hl h
 go_enter Tryz.func104,Tryz.ntmps104
 go_wp2_with fail;(with_reducible refine C.o.mono ?_);rintro e w2 ⟨rfl,y⟩;have z:=Z_ y;clear y;go_wp2
 go_end0
 exact⟨rfl,z.o⟩
end
end
section
open Go.RowKit Go.Sort
theorem z06.src{S:Nat->Prop}{w:World}{A:Option Addr}{n cap:Nat}{ts:List RTerm}(h:z06 S w (.slice A n cap) ts):n=ts.length/\∃xs,z0v S w xs ts/\Wq w A n 3 xs:=by
 obtain⟨b,off,⟨a',D,O,h2,h3,h4,h5⟩,hc⟩:=h;obtain⟨rfl,rfl,rfl⟩:A=a'/\n=ts.length/\cap=D:=by simpa using O
 refine⟨rfl,?_⟩;clear O h2 h3 h5
 have I:∀(us:List RTerm) (k:Nat),(∀j t,us[j]? = some t->∃vm vo,w.cell? ⟨b,off+(k+j)*3,none⟩=some (.bool t.c.neg)/\w.cell? ⟨b,off+(k+j)*3+1,none⟩=some vm/\w.cell? ⟨b,off+(k+j)*3+2,none⟩=some vo/\U32s S w vm t.c.mag/\Pows S w vo t.m) ->
   ∃xs,z0v S w xs us/\∀j u,xs[j]? = some u->w.cell? ⟨b,off+k*3+j,none⟩=some u:=by
  intro us
  induction us with
  |nil=>intro k _;exact⟨[],rfl,λ j u hu=>by simp at hu⟩
  |cons t r ih=>
   intro k X;obtain⟨vm,vo,U,K,J,Z,g5⟩:=X 0 t rfl
   obtain⟨xs,y,z⟩:=ih (k+1) (λ j u hu=>by
    have:=X (j+1) u (by simpa using hu);rw[show k+(j+1)=k+1+j by omega]at this
    exact this)
   refine⟨.bool t.c.neg :: vm :: vo :: xs,⟨vm,vo,xs,rfl,Z,g5,y⟩,λ j u hu=>?_⟩;rw[zp]at U K J
   match j,hu with
   |0,hu=>
              obtain rfl : _=u := by simpa using hu
              exact U
   |1,hu=>
              obtain rfl : _=u := by simpa using hu
              exact K
   |2,hu=>
              obtain rfl : _=u := by simpa using hu
              exact J
   |j+3,hu=>
    have:=z j u (by simpa using hu);rw[show off+k*3+(j+3)=off+(k+1)*3+j by omega];exact this
 obtain⟨xs,y,z⟩:=I ts 0 (λ j t hj=>by rw[zr];exact hc j t hj);refine⟨xs,y,by rw[y.length],y.one,λ h0=>⟨_,h4 h0,λ j u hu=>?_⟩⟩;rw[z9j];have:=z j u hu;simpa using this
theorem z06.of_none{S:Nat->Prop}{w:World}{n cap:Nat}{m:List RTerm}(h:z06 S w (.slice Option.none n cap) m):m=[]:=by
 obtain⟨b,off,⟨a',y,D,h2,h3,I,h5⟩,hc⟩:=h;obtain⟨rfl,rfl,rfl⟩:Option.none=a'/\n=m.length/\cap=y:=by simpa using D
 rcases zj m.length with z|z
 ·exact zO.1 z
 ·cases I z
theorem z06.onS{S:Nat->Prop}{w W:World}{v:Value}{z:List RTerm}(h:z06 S w v z)(hx:Ext w W)(hS:∀k,S k->k<w.heap.size):z06 S W v z:=h.ext hx hS
theorem Fd{S:Nat->Prop}(v:Value)(ts:List RTerm)(w:World)(h:z06 S w v ts)(hS:∀k,S k->k<w.heap.size)(hr:ts.length<=1000000000000) :
  Calls Tryz.prog 103 #[v] w λ e w'=>∃v' xs,e=.returned v'/\w'.ownsRow w.heap.size 54 3 v' ts.length xs/\z0v S w' xs ts/\Ext w w':=by
 obtain⟨i0,hi,K,D,I⟩:=info_parts uE;have H:=Z_ h;obtain⟨A,c,rfl⟩:=h.form;clear h;have hnil:=λ(w:World)=>Lib.run_eql_slice_nil (P:=Tryz.prog) w 34 54 A ts.length c 0 0 Tryz.underlying34
 cases A with
 |none=>
  have HM:=Z_ H.o.of_none
  go_enter Tryz.func103,Tryz.ntmps103
  go_wp2
  all_goals
   go_ret;have e:=HM.o;subst e;exact⟨_,[],rfl,World.ownsRow_nil _ _ _ _,rfl,uP _⟩
 |some ad=>
  have z:Ext w (w.alloc (.cells #[] 54)):=uO (uP w) _;obtain⟨-,xs,hc,Z⟩:=(H.o.ext z hS).src;have HS:=Z_ Z;have J:=Z_ hc;have HO:=Z_ (World.ownsRow_made (base:=w.heap.size) (e:=54) (size:=3) w #[] 0 (zR _) (by unfold maxLen;omega) (by simp));have X:=Z_ hr;clear z hc Z
  go_enter Tryz.func103,Tryz.ntmps103
  go_wp2_with (at_builtin;refine Wu _ rfl (.tmp 5) (.tmp 6) 34 rfl w.heap.size 54 i0 (.agg #[.bool false,.slice none 0 0,.slice none 0 0]) 3 56 Tryz.underlying34 hi K D I rfl (by decide) (.slice (some ⟨w.heap.size,0,none⟩) 0 0) 0 [] rfl HO.o (some ad) ts.length c xs rfl HS.o (by have:=X.o;unfold maxLen;omega) (by have:=X.o;omega) (by simp) ?_;intro v1 w1 y O _;have HW:=Z_ y;have U:=Z_ O;clear y O);go_ret
  have hx:Ext w w1:=by
   refine YU (uO (uP w) _) U.o (λ k hk=>?_);have e:w.heap.size=k:=by simpa[Value.ownBlock]using hk
   omega
  refine⟨v1,xs,rfl,by simpa using HW.o,?_,hx⟩;exact J.o.to (uJ U.o (λ k hk=>⟨by have:=hS k hk;simp;omega,λ e=>by have:=hS k hk;simp[Value.ownBlock]at e;omega⟩)) (λ _ h=>h)
structure TermIn (S:Nat->Prop) (w:World) where
 t:RTerm
 c:TCell
 neg:c.neg=t.c.neg
 hm:U32s S w (.slice c.ma c.mn c.mc) t.c.mag
 ho:Pows S w (.slice c.oa c.on c.oc) t.m
 may:Z3 t.m=true
instance (S:Nat->Prop) (w:World):Inhabited (TermIn S w):=⟨⟨⟨⟨false,[]⟩,[]⟩,⟨false,none,0,0,none,0,0⟩,rfl,ul _ _ _ _ (by decide),uB _ _ _,rfl⟩⟩
section
variable {S:Nat->Prop} {w:World}
theorem FT{xs:List Value}{ts:List RTerm}(h:z0v S w xs ts)(hm:∀t∈ts,Z3 t.m=true):∃d:List (TermIn S w),d.map (·.t)=ts/\xs=(d.map (Z0 (λ x:TermIn S w=>x.c))).flatten:=by
 induction ts generalizing xs with
 |nil=>
  have e:xs=[]:=h;subst e;exact⟨[],rfl,rfl⟩
 |cons t r ih=>
  obtain⟨vd,vo,ys,rfl,I,D,K⟩:=h;obtain⟨d,z,y⟩:=ih K (λ u hu=>hm u (by simp[hu]));obtain⟨a1,c1,rfl⟩:=I.form;obtain⟨J,c2,rfl⟩:=D.form;exact⟨⟨t,⟨t.c.neg,a1,_,c1,J,_,c2⟩,rfl,I,D,hm t (by simp)⟩ :: d,by simp[z],by simp[y]⟩
theorem J2{α:Type}{enc:α->List Value}{d:List α}(hk:∀x,(enc x).length=3){j c:Nat}{x:α}(hj:d[j]? = some x)(hc:c<3):(d.map enc).flatten[j*3+c]? = (enc x)[c]?:=by
 induction d generalizing j with
 |nil=>simp at hj
 |cons y r ih=>
  simp only[ya,List.flatten_cons]
  cases j with
  |zero=>
   obtain rfl:y=x:=by simpa using hj
   rw[yc (by rw[hk];omega)]
   congr 1
   omega
  |succ j=>
   rw[yI (by rw[hk];omega),hk];rw[show(j+1)*3+c-3=j*3+c by omega];exact ih (by simpa using hj)
theorem Cj{base g n cap:Nat}{e:TypeId}{xs:List Value}{d:List (TermIn S w)}(h:w.ownsRow base e 3 (.slice (some ⟨g,0,none⟩) n cap) n xs)(hx:xs=(d.map (Z0 (λ x:TermIn S w=>x.c))).flatten)(hn:n=d.length):SortAt (Z0 (λ x:TermIn S w=>x.c)) 3 w g 0 d w/\n<=cap/\cap<=maxLen:=by
 obtain⟨hl,hh⟩:=h
 rcases hh with ⟨I,_⟩|⟨g',y,cur,I,h2,D,Z,X,h6,U⟩
 ·simp at I
 ·obtain⟨rfl,rfl⟩:g=g'/\cap=y:=by simpa using I
  refine⟨⟨Kc _ _,?_,(yg.1 D).1⟩,Z,X⟩
  have cell:∀k,k<n*3->w.cell? ⟨g,k,none⟩=xs[k]?/\w.frozen? ⟨g,k,none⟩=false:=λ k hk=>by
   unfold World.cell? World.frozen?;simp only[D];rw[<-U,w_,if_pos hk];simp
  intro j J;rw[size_flatK]at J;have K:j<d.length*3:=by simpa using J
  obtain⟨x,z⟩:=ZN (show j / 3<d.length by omega);have O:=cell j (by rw[hn];exact K);rw[zr];refine⟨?_,O.2⟩;rw[O.1,hx,get_flatK _ _ _ _ J,Vo z];have:=J2 (enc:=Z0 (λ x:TermIn S w=>x.c)) (λ _=>rfl) z (c:=j % 3) (yS _ (by decide));rw[show j / 3*3+j % 3=j by omega]at this;rw[this];have D:=yS j (show 0<3 by decide);simp only[id];rcases(show j % 3=0∨j % 3=1∨j % 3=2 by omega) with e|e|e<;>simp[e]
end
def RW{S:Nat->Prop}{w:World}(x y:TermIn S w):Int:=XF y.t.m x.t.m
def VR{S:Nat->Prop}{w:World}(x y:TermIn S w):Bool:=decide (0<=XF x.t.m y.t.m)
theorem UV{a b:Z7}(ha:Z3 a=true)(hb:Z3 b=true):XF a b=Zs a b:=by unfold XF;simp[ha,hb]
theorem Lt{S:Nat->Prop}{w:World}:CmpLe (RW (S:=S) (w:=w)) VR:=by
 refine⟨λ x y=>QG _ _,λ x y=>rfl,⟨λ a b c h1 h2=>?_,λ a b=>?_⟩⟩
 ·unfold VR at *;rw[UV a.may b.may]at h1;rw[UV b.may c.may]at h2;rw[UV a.may c.may];simp only[decide_eq_true_eq]at *
  rcases VQ a.may b.may with g|g|g
  ·omega
  ·rw[(Vh a.may b.may).1 g];exact h2
  ·rcases VQ b.may c.may with k|k|k
   ·omega
   ·rw[<-(Vh b.may c.may).1 k];exact h1
   ·have:=RR a.may b.may c.may g k;omega
 ·unfold VR;rw[UV a.may b.may,UV b.may a.may];simp only[decide_eq_true_eq];have:=QV a.may b.may;omega
theorem B9{S:Nat->Prop}{w:World}{g:Nat}(hS:∀k,S k->k<w.heap.size/\k≠g):Ya 105 (λ x:TermIn S w=>x.c) RW w g:=by
 intro W Z x y;simp only[];have D:Kept S w W:=uJ Z (λ k D=>⟨(hS k D).1,λ e=>(hS k D).2 (Option.some.inj e)⟩);have z:∀k,S k->k<W.heap.size:=λ k D=>zU (hS k D).1 Z.size;have U:=x.ho.to D (λ _ h=>h);have X:=y.ho.to D (λ _ h=>h);have O:=λ(W':World) (hE:Ext W W')=>Se _ _ y.t.m x.t.m W' (X.ext hE z) (U.ext hE z) (ZM z hE);have K:=Z_ O;unfold RW;generalize XF y.t.m x.t.m=c at *;generalize x.c=cx at *;generalize y.c=cy at *;have HK:=Z_ (uO (uO (uP W) (.cells #[.bool cx.neg,.slice cx.ma cx.mn cx.mc,.slice cx.oa cx.on cx.oc] 54)) (.cells #[.bool cy.neg,.slice cy.ma cy.mn cy.mc,.slice cy.oa cy.on cy.oc] 54));clear O U X D z
 go_enter Tryz.func105,Tryz.ntmps105
 go_wp2_with fail;(with_reducible refine(K.o _ HK.o).mono ?_);rintro e w1 ⟨rfl,I⟩;have J:=Z_ (HK.o.trans I);clear I;go_wp2
 all_goals
  go_ret;exact⟨rfl,J.o⟩
theorem JK{S:Nat->Prop}{w:World}{d:List (TermIn S w)}(h:z1f VR d):(d.map (·.t)).Pairwise λ a b=>0<=Zs a.m b.m:=by
 rw[xL];refine List.Pairwise.imp (λ {a b} hab=>?_) h;unfold VR at hab;rw[UV a.may b.may]at hab;simpa using hab
theorem KM(A:Option Addr)(c:Nat)(W:World):Calls Tryz.prog 104 #[.slice A 0 c,.func (.func 105) #[] #[]] W λ e w'=>e=.returned (.tuple #[])/\W=w':=by
 have hi:∀W,Calls Tryz.prog 154 #[.slice A 0 c,.int .i64 0,.int .i64 0,.func (.func 105) #[] #[]] W λ e w'=>e=.returned (.tuple #[])/\W=w':=by
  intro W
  go_enter Tryz.func154,Tryz.ntmps154
  go_wp2;refine wp_loop_rounds 1 ?_;rw[rounds_succ];go_wp2
  go_end0
  exact⟨rfl,rfl⟩
 have D:=Z_ hi
 have y:Calls Tryz.prog 131 #[.slice A 0 c,.int .i64 0,.func (.func 105) #[] #[]] W λ e w'=>e=.returned (.tuple #[])/\W=w':=by
  clear hi
  go_enter Tryz.func131,Tryz.ntmps131
  go_wp2;refine wp_loop_rounds 1 ?_;rw[rounds_succ];go_wp2_with fail;(with_reducible refine(D.o _).mono ?_);rintro e w1 ⟨rfl,rfl⟩;go_wp2;refine wp_loop_rounds 1 ?_;rw[rounds_succ];go_wp2
  go_end0
  exact⟨rfl,rfl⟩
 have z:=Z_ y;clear hi y
 go_enter Tryz.func104,Tryz.ntmps104
 go_wp2_with fail;(with_reducible refine z.o.mono ?_);rintro e w1 ⟨rfl,rfl⟩;go_wp2
 go_end0
 exact⟨rfl,rfl⟩
end
section
open Go.RowKit Go.Sort
section
variable {P:Program}
theorem Ae(w:World)(t u ty e:TypeId)(k:IntKind)(i:TypeInfo)(z:Value)(ht:P.underlying t=some (.slice e))(hu:P.underlying u=some (.int k))(hi:P.info? e=some i)(hz:i.zero=some z)
  (n:Nat) (h0:0<n) (h63:(n:Int)<=9223372036854775807) (h48:n*i.bytes<=281474976710656) (hs:0<i.size) :
  (Builtin.append_ #[t,u] ty #[.slice none 0 0,.int .i64 (n:Int)]).run P w =
   .ok (.slice (some ⟨w.heap.size,0,none⟩) n (grownCap w n 0 e)) (w.drew.alloc (.cells (Builtin.zeroCells z.cells n++Builtin.zeroCells z.cells (grownCap w n 0 e-n)) e)):=by
 have U:n≠0:=by omega
 have K:n*i.size≠0:=by
  have:=vG h0 hs;omega
 have I:¬ (9223372036854775807<(n:Int)):=by omega
 have J:¬ (281474976710656<Builtin.nextslicecap n 0*i.bytes):=by rw[nextslicecap_zero h0];omega
 have y:¬ (281474976710656<(n:Int)*(i.bytes:Int)):=by
  have:((n*i.bytes:Nat):Int)<=281474976710656:=by omega
  rw[yz]at this;omega
 have O:IntKind.i64.wrap (n:Int)=(n:Int):=by rw[IntKind.wrap_i64];omega
 have D:¬ ((n:Int)<0):=by omega
 have hsz:¬ i.size=0:=by omega
 simp[Builtin.append_,run_underlying ht,run_underlying hu,sizeOf,typeInfo,zeroValue,hi,hz,asInt,asIntOf,O,D,y,U,K,I,J,Question.forced,run_firstCells_none,newRow,grownCap]
theorem GQ(w:World){ops:Array Oper}{rest:List Oper}{o:Oper}{a:Act}{Q:Exit->Act->World->Prop}(hgd:o.guard=none)(s x:Operand)(t u:TypeId)(k:IntKind)
  (ho:o.op=.call { callee:=.builtin .append,args:=#[s,x],argTypes:=#[t,u] })
  (e:TypeId) (i:TypeInfo) (z:Value) (size bytes:Nat) (ht:P.underlying t=some (.slice e)) (hu:P.underlying u=some (.int k)) (hi:P.info? e=some i) (hz:i.zero=some z)
  (hsize:i.size=size) (hby:i.bytes=bytes) (hzs:z.cells.size=size) (hsz:0<size)
  (n:Nat) (hs:a.eval s=.slice none 0 0) (hx:a.eval x=.int .i64 (n:Int)) (h0:0<n) (h63:n<=maxLen) (hbytes:n*bytes<=140737488355328)
  (h:∀cap w',w'.ownsRow w.heap.size e size (.slice (some ⟨w.heap.size,0,none⟩) 0 cap) 0 []->n<=cap->Ext w w'->wpList P ops Q rest (a.put o.dst (.slice (some ⟨w.heap.size,0,none⟩) n cap)) w'):wpList P ops Q (o :: rest) a w:=by
 have y:=Ae (P:=P) w t u o.type e k i z ht hu hi hz n h0 (by unfold maxLen at h63;omega) (by rw[hby];omega) (by omega);have I:grownCap w n 0 e<=maxLen:=grownCap_le_maxLen w n 0 e h63;have D:=grownCap_ge w n 0 e;refine wpList_plain hgd λ K hK=>?_;unfold Oper.wp execOp;simp only[ho,resolve,invoke,builtin,Sem.run_bind,Sem.run_pure,Result.andThen_ok,vA,ya,List.map_nil,hs,hx,y]
 refine hK _ _ (h _ _ ?_ D ?_)
 ·refine⟨by simp,.inr ⟨w.heap.size,_,_,rfl,zR _,heap_alloc_new w.drew _,zL _,I,?_,by simp⟩⟩;simp only[Array.size_append,size_zeroCells,hzs,<-y8]
  congr 1
  omega
 ·exact((uP w).drew).alloc _
end
theorem En(n:Nat)(w:World)(hn:n<=1000000000000) :
  Calls Tryz.prog 148 #[.slice none 0 0,.int .i64 n] w λ e w'=>∃v',e=.returned v'/\w'.ownsRow w.heap.size 54 3 v' 0 []/\Ext w w':=by
 obtain⟨Z,X,D,z,I⟩:=info_parts uE
 rcases zj n with rfl|U
 ·go_enter Tryz.func148,Tryz.ntmps148
  go_wp2;go_ret;exact⟨_,rfl,World.ownsRow_nil _ _ _ _,uP _⟩
 ·have q0:(n:Int)>0:=by omega
  go_enter Tryz.func148,Tryz.ntmps148
  go_wp2_with (at_builtin;refine GQ _ rfl (.tmp 20) (.tmp 21) 35 3 .i64 rfl 54 Z (.agg #[.bool false,.slice none 0 0,.slice none 0 0]) 3 56 Tryz.underlying35 Tryz.underlying3 X D z I rfl (by decide) n rfl rfl U (by unfold maxLen;omega) (by omega) ?_;intro cap w1 y hcap J;have K:=Z_ y;have O:=Z_ J;clear y J);go_ret;exact⟨_,rfl,K.o,O.o⟩
theorem MH{α:Type}{ls:List (List α)}{k:Nat}{p:List α}(h:ls[k]? = some p):(ls.take (k+1)).flatten=(ls.take k).flatten++p:=by
 rw[zv,h];simp
theorem IG{α:Type}(ls:List (List α))(k:Nat):(ls.take k).flatten.length<=ls.flatten.length:=by
 conv=>rhs;rw[<-y_ k ls]
 rw[List.flatten_append,zI];omega
theorem Lf{S:Nat->Prop}{w2:World}{base:Nat}{e:TypeId}{v:Value}{n:Nat}{xs:List Value}{l:List RTerm}{ys:List Value}{w1:World}(hS:∀k,S k->k<base)(hw:base<=w1.heap.size)(h:z0v S w1 xs l)(ho:w1.ownsRow base e 3 v n ys)(hg:w1.grownBy w2 v.ownBlock):z0v S w2 xs l :=
 h.to (uJ hg (λ k hk=>⟨zU (hS k hk) hw,λ e=>by have h1:=(ho.lt k e.symm).1;have h2:=hS k hk;omega⟩)) (λ _ h=>h)
theorem It{S:Nat->Prop}(v:Value)(ls:List (List RTerm))(w:World)(h:z1w S w v ls)(hS:∀k,S k->k<w.heap.size)(hn:ls.flatten.length<=1000000000000) :
  Calls Tryz.prog 124 #[v] w λ e w'=>∃v' xs,e=.returned v'/\w'.ownsRow w.heap.size 54 3 v' ls.flatten.length xs/\z0v S w' xs ls.flatten/\Ext w w':=by
 obtain⟨j0,hj,ai,ax,au⟩:=info_parts uE;have H:=Z_ h;have ay:=h.len_le;obtain⟨A,c,rfl⟩:=h.form;obtain⟨n,ac⟩:∃n,n=ls.length:=⟨_,rfl⟩
 rw[<-ac]at H ay⊢;have HN:=Z_ ac;have K:=Z_ (IG ls);clear h ac
 go_enter Tryz.func124,Tryz.ntmps124
 go_wp2
 go_loop [3,11] (λ sz i=>∃k s:Nat,k<=n/\i=.int .i64 k/\sz=.int .i64 s/\Hd (s=(ls.take k).flatten.length)) (λ _ i=>n-(intOf i).toNat)
 case atStart=>exact⟨0,0,zL _,rfl,rfl,rfl⟩
 case round=>
  obtain⟨k,s,hk,rfl,rfl,z⟩:=hrel;have hs:s<=1000000000000:=by rw[z.o];exact zT (K.o k) hn
  by_cases aa:k<n
  ·obtain⟨p,hp⟩:=ZN (l:=ls) (j:=k) (by rw[<-HN.o];exact aa);obtain⟨bl,off,vp,rfl,-,aq,av,az,h1,J⟩:=H.o.cellAt hp;have HP:=Z_ (MH hp);obtain⟨ap,cp,rfl⟩:=J.form;have ah:=J.len_le;obtain⟨np,y⟩:∃m,m=p.length:=⟨_,rfl⟩
   rw[<-y]at h1 ah
   have ar:s+np<=1000000000000:=by
    have O:=K.o (k+1);rw[HP.o,zI,<-z.o,<-y]at O;exact zT O hn
   have Z:=Z_ y;clear J hp y;go_wp2
   go_round
   case rel=>exact⟨k+1,s+np,by omega,by go_num,by go_num,by show _=_;rw[HP.o,zI,z.o,Z.o]⟩
   case measure=>simp only[intOf];omega
  ·obtain rfl:k=n:=by omega
   have C:=Z_ (En s w hs);go_wp2_with fail;(with_reducible refine C.o.mono ?_);rintro e w1 ⟨v1,rfl,D,ae⟩;have ag:=Z_ D;have aj:=Z_ ae;clear D ae;go_wp2
   go_loopw [6,8,27] (λ o _ i wr=>∃(j s:Nat) (xs:List Value),j<=k/\i=.int .i64 j/\Ext w wr/\Hd (s=(ls.take j).flatten.length)/\Hd (wr.ownsRow w.heap.size 54 3 o s xs)/\Hd (z0v S wr xs (ls.take j).flatten)) (λ _ _ i _=>k-(intOf i).toNat)
   case atStart=>exact⟨0,0,[],zL _,rfl,aj.o,rfl,ag.o,rfl⟩
   case round=>
    clear z hs;obtain⟨j,s,xs,hj',rfl,hx,z,HW,HY⟩:=hrel;have hs:s<=1000000000000:=by rw[z.o];exact zT (K.o j) hn
    have HX:=Z_ hx
    by_cases aa:j<k
    ·obtain⟨p,hp⟩:=ZN (l:=ls) (j:=j) (by rw[<-HN.o];exact aa);obtain⟨bl,off,vp,rfl,-,aq,av,az,h1,J⟩:=(H.o.ext hx hS).cellAt hp;have HP:=Z_ (MH hp);obtain⟨ap,cp,rfl⟩:=J.form;obtain⟨-,U,hc,I⟩:=J.src;obtain⟨np,y⟩:∃m,m=p.length:=⟨_,rfl⟩
     rw[<-y]at h1 I
     have ar:s+np<=1000000000000:=by
      have O:=K.o (j+1);rw[HP.o,zI,<-z.o,<-y]at O;exact zT O hn
     have Z:=Z_ y;have ad:=Z_ I;have al:=Z_ hc;clear J hp y hc I hx;go_wp2_with (at_builtin;refine Wu _ rfl (.tmp 31) (.tmp 32) 35 rfl w.heap.size 54 j0 (.agg #[.bool false,.slice none 0 0,.slice none 0 0]) 3 56 Tryz.underlying35 hj ai ax au rfl (by decide) _ s xs rfl HW.o ap np cp U rfl ad.o (by unfold maxLen;omega) (by omega) HX.o.size ?_;intro v2 w2 D hg _;have af:=Z_ D;have X:=Z_ hg;clear D hg)
     go_roundw
     case rel=>
      refine⟨j+1,s+np,xs++U,by omega,by go_num,XH HX.o HW.o X.o,?_,af.o,?_⟩
      ·show _=_;rw[HP.o,zI,z.o,Z.o]
      ·show z0v _ _ _ _;rw[HP.o];exact(Lf hS HX.o.size HY.o HW.o X.o).append (Lf hS HX.o.size al.o HW.o X.o)
     case measure=>simp only[intOf];omega
    ·obtain rfl:j=k:=by omega
     have HE:Hd (ls.take j=ls):=Z_ (zN (by rw[<-HN.o];exact zR _));clear hx;go_wp2;go_ret;have h1:=HW.o;have J:=HY.o;have O:=z.o;rw[HE.o]at J O;rw[O]at h1;exact⟨_,xs,rfl,h1,J,HX.o⟩
end
section
open Go.RowKit Go.Sort
abbrev Vd(a b:World)(B:Nat):Nat->Prop:=λ k=>(a.heap.size<=k/\k<b.heap.size)/\k≠B
def toQ{S:Nat->Prop}{w:World}(q:List (TermIn S w)):PZ:=toP (q.map (·.t))
theorem U5{S:Nat->Prop}(v:Value)(ts:List RTerm)(w:World)(L:Nat)(h:z06 S w v ts)(hS:∀k,S k->k<w.heap.size)(hm:∀t∈ts,Z3 t.m=true)(hr:∀t∈ts,t.c.mag.length<=L)(hL:L<=10000000000)(hn:ts.length<=1000000000000) :
  Calls Tryz.prog 66 #[v] w λ e w'=>∃v',e=.returned v'/\z06 (New w w') w' v' (Z5 (Zr (toP ts)))/\Ext w w':=by
 obtain⟨j0,hj,eB,eu,d6⟩:=info_parts uE;have H:=Z_ h;have ei:=Z_ hm;have HR:=Z_ hr;have HC:=Z_ (Fd v ts w h hS hn);obtain⟨a,cap,rfl⟩:=h.form;clear h hm hr
 go_enter Tryz.func66,Tryz.ntmps66
 go_wp2_with fail;(with_reducible refine HC.o.mono ?_);rintro e w1 ⟨v1,xs,rfl,U,ay,et⟩;have HOWN:=Z_ U;have cd:=Z_ et;have HCE:=Z_ ay;obtain⟨d,ce,c9⟩:=FT ay ei.o;clear ay et
 rcases U.2 with ⟨rfl,h0⟩|⟨g,cr,cur,rfl,hg,fn,fF,ch,fg,er⟩
 ·obtain rfl:ts=[]:=zO.1 h0;clear U h0 ce c9;go_wp2_with fail;(with_reducible refine(KM _ _ _).mono ?_);rintro e w2 ⟨rfl,rfl⟩;go_wp2;refine wp_loop_rounds 1 ?_;rw[rounds_succ];go_wp2;go_ret;exact⟨_,rfl,z06.nilv _ _ _ _ (by decide),cd.o⟩
 ·obtain⟨n,cj⟩:∃n,n=ts.length:=⟨_,rfl⟩
  rw[<-cj]at U⊢;have cb:n=d.length:=by rw[cj,<-ce];simp
  obtain⟨eP,e4,fc⟩:=Cj U c9 cb;have ds:∀k,S k->k<w1.heap.size/\k≠g:=λ k J=>⟨zU (hS k J) cd.o.size,by have:=hS k J;omega⟩;have co:=Z_ ds;have fl:n<=1000000000000:=by omega
  have C:=Z_ (JQ (tc:=λ x:TermIn S w1=>x.c) (cf:=RW) (le:=VR) (cap:=cr) d w1 (B9 ds) Lt cb eP e4 fl);have ed:=Z_ ce;have fp:=Z_ cb;have fd:Hd (w.heap.size<=g):=Z_ hg;unfold maxLen at fc;have HNN:=Z_ cj;clear U ce c9 cb eP ds hg fn fF ch fg er cj;go_wp2_with fail;(with_reducible refine C.o.mono ?_);rintro e w2 ⟨rfl,ca⟩;have fv:Kept S w w2:=(uM cd.o hS).trans (uJ ca.grown (λ k J=>⟨(co.o k J).1,λ e=>(co.o k J).2 (Option.some.inj e)⟩))
  have cv:Ext w w2:=YU cd.o ca.grown (λ k J=>by
   have:g=k:=Option.some.inj J;have:=fd.o
   omega)
  have a6:=Z_ ca;have cy:=Z_ cv
  have ap:Hd (∀W,Ext w2 W->Kept S w1 W/\∀k,S k->k<W.heap.size):=Z_ (λ W hW=>
   ⟨uJ (My ca.grown hW) (λ k J=>⟨(co.o k J).1,λ e=>(co.o k J).2 (Option.some.inj e)⟩),λ k J=>zU (hS k J) (cv.trans hW).size⟩)
  have hp:=Lr (le:=VR) d;have eg:=JK (TU (Lt (S:=S) (w:=w1)).total d);have eR:=z1g (le:=VR) d;generalize Y9 VR d=q at *;have HP:=Z_ hp;have ff:=Z_ eg;have aC:Hd (n=q.length):=Z_ (by rw[eR];exact fp.o);clear hp eg eR ca fv cv;go_wp2
  go_loopw [0,2,3,4] (λ l p _ _ wr=>∃(q1 q2:List (TermIn S w1)) (A:Option Addr) (m cl k:Nat) (ys:List Value) (ps:PZ),Hd (q=q1++q2)/\l=.slice A m cl/\Hd (m=q2.length)/\Hd (0<m->A=some ⟨g,q1.length*3,none⟩)/\m<=cl/\cl<=9223372036854775807/\Ext w2 wr/\Hd (wr.ownsRow w2.heap.size 54 3 p k ys)/\Hd (z0v (Yy w2 wr p) wr ys (Z5 ps))/\Hd (k=ps.length)/\Hd (∀z,Coll (toQ q2) z->Coll (toQ q) (ps++z))/\k<=q1.length) (λ l _ _ _ _=>Yr l)
  case atStart=>exact⟨[],q,_,n,cr,0,[],[],rfl,rfl,aC.o,λ _=>by simp,e4,by omega,uP _,World.ownsRow_nil _ _ _ _,rfl,rfl,λ z hz=>by simpa using hz,zL _⟩
  case round=>
   obtain⟨q1,q2,A,m,cl,k,ys,ps,HQ,rfl,ci,HA,hmc,hcl,hx,HW,HY,bn,bm,hkq⟩:=hrel;have HX:=Z_ hx;clear hx;generalize wr=w4 at *
   cases q2 with
   |nil=>
    obtain rfl:m=0:=ci.o
    have HF:Hd (ps=Zr (toP ts)):=Z_ (by
     have D:=bm.o [] .nil;rw[yj]at D
     refine D.norm ?_ ?_ ?_
     ·intro u hu;obtain⟨t,ht,rfl⟩:=zG.1 hu;obtain⟨y,-,rfl⟩:=zG.1 ht;exact y.may
     ·unfold toQ toP;rw[xL];exact ff.o
     ·rw[<-ed.o]
      exact(HP.o.map _).map _)
    go_wp2;go_ret;refine⟨_,rfl,?_,cy.o.trans HX.o⟩;have hc:=HY.o;rw[HF.o]at hc;have ho:=HW.o;rw[bn.o,HF.o]at ho;exact Vk (by rw[z5l];exact ho) (hc.to (uN _ _) (λ _ h=>⟨zT cy.o.size h.1.1,h.1.2⟩)) (λ k D X=>⟨zT cy.o.size D,X⟩)
   |cons x r=>
    obtain⟨m,rfl⟩:∃m',m=m'+1:=⟨m-1,by have:=ci.o;simp at this;omega⟩
    obtain rfl:A=some ⟨g,q1.length*3,none⟩:=HA.o (by omega);have fu:=Z_ (a6.o.later HX.o);have d7:q[q1.length]? = some x:=by rw[HQ.o];exact WL _ _ _
    obtain⟨⟨c0,c1,c2⟩,-⟩:=fu.o.get3 d7;simp only[zr]at c0 c1 c2;have aH:Hd (m=r.length):=Z_ (by have:=ci.o;simpa using this)
    have aB:Hd (∀y∈q,y.t.c.mag.length<=L):=Z_ (λ y hy=>by
     refine HR.o _ ?_;rw[<-ed.o]
     exact List.mem_map_of_mem (HP.o.mem_iff.1 hy))
    have cp:Hd (x∈q):=Z_ (by rw[HQ.o];simp);have CA:=Z_ (TI (S:=S) (.agg #[.bool x.c.neg,.slice x.c.ma x.c.mn x.c.mc]) _ x.t.c ⟨false,[]⟩ w4 ⟨_,by rw[x.neg],x.hm.to (ap.o w4 HX.o).1 (λ _ h=>h)⟩ (Qq _ _) (ap.o w4 HX.o).2 (by have:=aB.o x cp.o;omega) (by decide));clear d7 ci HA;go_wp2_with fail;(with_reducible refine CA.o.mono ?_);rintro e w3 ⟨vc,rfl,⟨vm3,rfl,b7⟩,dt⟩;rw[zaw,u_]at b7⊢;obtain⟨am,O,rfl⟩:=b7.form;obtain⟨z0,dz⟩:∃z,z=Z6 x.t.c:=⟨_,rfl⟩
    rw[<-dz]at b7⊢;have e6:=Z_ dt;have c8:=Z_ b7;have d4:=Z_ dz;have c5:Hd (w4.heap.size<=w3.heap.size):=Z_ dt.size;clear b7 dt dz;obtain⟨b4,bf⟩:∃b,b=(Z8 z0).neg:=⟨_,rfl⟩
    obtain⟨a9,a5⟩:∃b,b=(Z8 z0).mag.length:=⟨_,rfl⟩
    rw[<-bf,<-a5];rw[<-a5]at c8;have ct:=Z_ bf;have cu:=Z_ a5;clear bf a5;have d8:Hd (U32s (Vd w4 (w3.alloc (.cells #[.bool b4,.slice am a9 O] 28)) w3.heap.size) (w3.alloc (.cells #[.bool b4,.slice am a9 O] 28)) (.slice am a9 O) (Z8 z0).mag):=Z_ (c8.o.to (uw (λ k J=>J.2) _) (λ k J=>⟨⟨J.1,by rw[z00];have:=J.2;omega⟩,by have:=J.2;omega⟩));have d9:=Z_ (e6.o.alloc (.cells #[.bool b4,.slice am a9 O] 28));obtain⟨k0,k1,k2,k3⟩:=new2 (uP (w3.alloc (.cells #[.bool b4,.slice am a9 O] 28)));have bs:=Z_ (zS k0 (zS k1 (zS k2 k3)));clear k0 k1 k2 k3;go_wp2
    go_loopw [3] (λ nn wx=>∃(r1 r2:List (TermIn S w1)) (cn:Nat) (z:Int) (ng:Bool) (am:Option Addr) (Z O:Nat),Hd (r=r1++r2)/\nn=.int .i64 cn/\Hd (cn=r1.length+1)/\cn<=m+1/\Hd (∀y∈r1,y.t.m=x.t.m)/\Hd (z=Z6 x.t.c+YW (toQ r1))/\Hd (ng=(Z8 z).neg)/\Hd (Z=(Z8 z).mag.length)/\Ext w4 wx /\
     wx.cell? ⟨w3.heap.size,0,none⟩=some (.bool ng)/\wx.cell? ⟨w3.heap.size,1,none⟩=some (.slice am Z O)/\wx.frozen? ⟨w3.heap.size,0,none⟩=false/\wx.frozen? ⟨w3.heap.size,1,none⟩=false/\Hd (U32s (Vd w4 wx w3.heap.size) wx (.slice am Z O) (Z8 z).mag)) (λ nn _=>m+1-(intOf nn).toNat)
    case atStart=>exact⟨[],r,1,z0,b4,am,a9,O,rfl,rfl,rfl,by omega,λ y hy=>by simp at hy,by show _=_;rw[d4.o];simp[toQ,toP,YW],ct.o,cu.o,d9.o,bs.o.1,bs.o.2.1,bs.o.2.2.1,bs.o.2.2.2,d8.o⟩
    case round=>
     clear d8 d9 bs ct cu d4 c8 CA;obtain⟨r1,r2,cn,z,ng,am,Z,O,I,rfl,a8,d5,dr,HZ,bl,HNL,au,k0,k1,k2,k3,b2⟩:=hrel;have ar:=Z_ au;have av:=Z_ (HX.o.trans au);have d0:=au.cell c0;have d1:=au.cell c1;have d2:=au.cell c2;have HKC:=Z_ (zS k0 (zS k1 (zS k2 k3)));have HD0:=Z_ (zS d0 (zS d1 d2));clear au
     cases r2 with
     |nil=>
      have ch:cn=m+1:=by rw[a8.o,aH.o,I.o];simp
      have cg:decide ((cn:Int)<(m:Int)+1)=false:=decide_eq_false (by omega);have cG:Hd (∀u∈(toQ ([]:List (TermIn S w1))).head?,u.2≠x.t.m):=Z_ (λ u hu=>by simp[toQ,toP]at hu);clear ch;go_wp2;refine Zh (by kernel_rfl) (by kernel_rfl) ?_
      repeat (go_big_quiet_step (fail))
      refine wpQuiet_nil ?_;intro W2 K;have al:=Z_ K;clear cg;have bb:Hd (w3.heap.size<wr.heap.size):=Z_ (Zj k0);have aN:=K.cell k0;have a3:=K.cell k1
      have bg:Hd ((Z8 z).mag.length<=40000000000000):=Z_ (by
       rw[z54,HZ.o]
       refine zT (Qu (k:=L) ?_ ?_ ?_) (by omega)
       ·exact WW (Ws x.hm.lt) (aB.o x cp.o)
       ·intro u hu;obtain⟨t,ht,rfl⟩:=zG.1 hu;obtain⟨y',ax,rfl⟩:=zG.1 ht;exact WW (Ws y'.hm.lt) (aB.o y' (by rw[HQ.o,I.o];simp[ax]))
       ·have D:=aH.o;have X:=aC.o;rw[HQ.o]at X;rw[I.o]at D X;have bB:Z9^2=18446744073709551616:=by decide
        rw[bB];simp[toQ,toP]at D X⊢
        omega)
      have af:Hd (m+1-cn=([]:List (TermIn S w1)).length/\cn=r1.length+1):=Z_ (by
       have D:=aH.o;rw[I.o]at D;have X:=a8.o;simp at D⊢
       omega)
      have aG:Hd (∀z',Coll (toQ ([]:List (TermIn S w1))) z'->Coll (toQ (x :: r)) (Ym z x.t.m++z')):=Z_ (λ z' hz'=>by
       have D:=Coll.group (Z6 x.t.c,x.t.m) (toQ r1) (toQ ([]:List (TermIn S w1))) z' (λ u hu=>by
        obtain⟨t,ht,rfl⟩:=zG.1 hu;obtain⟨y',ax,rfl⟩:=zG.1 ht
        exact dr.o y' ax) cG.o hz'
       rw[HZ.o,I.o];have e:toQ (x :: (r1++([]:List (TermIn S w1))))=(Z6 x.t.c,x.t.m) :: toQ r1++toQ ([]:List (TermIn S w1)):=by simp[toQ,toP]
       rw[e]
       exact D)
      have CS:=Z_ (X5 (S:=Vd w4 wr w3.heap.size) (.agg #[.bool ng,.slice am Z O]) (Z8 z) W2 ⟨_,by rw[bl.o],b2.o.to (uM K (λ k J=>J.1.2)) (λ _ h=>h)⟩ (λ k J=>zU J.1.2 K.size) (by have:=bg.o;omega));have fB:=Z_ (zS (K.cell d0) (zS (K.cell d1) (K.cell d2)));have aq:Zx (Z6 (Z8 z))=Zx z:=by rw[z09]
      clear k0 k1 k2 k3 d0 d1 d2 K;go_wp2_with fail;(with_reducible refine CS.o.mono ?_);rw[aq];rintro e w6 ⟨rfl,ah⟩;have ae:=Z_ (al.o.trans ah);obtain⟨sg,ac⟩:∃s,s=Zx z:=⟨_,rfl⟩
      rw[<-ac];have cA:-1<=sg/\sg<=1:=by rw[ac];unfold Zx;rcases Uu z 0 with h|h|h<;>omega
      obtain⟨dG,ez⟩:=cA;have el:=Z_ ac;have aj:=ah.cell aN;have ai:=ah.cell a3;have e5:cn<=m+1:=d5
      by_cases hz:z=0
      ·have hb:(sg != 0)=false:=by rw[ac,hz];decide
       have cR:=Z_ hz;clear aN a3 aq ac hz ah;go_wp2
       go_roundw
       case rel=>
        refine⟨q1++x :: r1,([]:List (TermIn S w1)),_,m+1-cn,cl-cn,k,ys,ps,?_,rfl,af.o.1,?_,by omega,by omega,HX.o.trans (ar.o.trans ae.o),Zp HW.o (ar.o.trans ae.o),Yj HY.o (ar.o.trans ae.o),bn.o,λ z' hz'=>?_,?_⟩
        ·show _=_;rw[HQ.o,I.o];simp
        ·intro h;have X:=af.o.2
         try rw[if_neg (by omega)]
         congr 2
         simp;omega
        ·have D:=aG.o z' hz';rw[cR.o]at D;exact bm.o z' D
        ·simp;omega
       case measure=>have X:=af.o.2;simp only[Yr];omega
      ·have hb:(sg != 0)=true:=by
        rw[ac,bne_iff_ne];unfold Zx cmpI
        split<;>(try split)<;>omega
       clear aN a3 aq ac ah;have ad:Ext w4 w6:=ar.o.trans ae.o;have aF:=Z_ ad;have aS:=Z_ ((uP w6).drew);have ag:=Z_ ad.drew;have S0:_/\_/\_:=zS (aS.o.cell aj) (zS (aS.o.cell ai) ((ad.drew).cell c2));have c6:Hd (∀W,Ext w6 W->U32s (Vd w4 W w3.heap.size) W (.slice am Z O) (Z8 z).mag):=Z_ (λ W hW=>b2.o.to (uM (ae.o.trans hW) (λ k J=>J.1.2)) (λ k J=>⟨⟨J.1.1,zU J.1.2 (ae.o.trans hW).size⟩,J.2⟩));have cC:=Z_ (Tq (S:=S) (.slice x.c.oa x.c.on x.c.oc) x.t.m w6.drew (x.ho.to (ap.o _ (HX.o.trans ag.o)).1 (λ _ h=>h)) (ap.o _ (HX.o.trans ag.o)).2 (zT (WR x.may) (by decide)));have cB:=Z_ (Zp HW.o ag.o);have cz:=Z_ (Yj HY.o ag.o);have eq:=Z_ (zS aj ai);have db:Hd (k+1<=maxLen):=Z_ (by have D:=aC.o;rw[HQ.o]at D;simp at D;unfold maxLen;omega);have cP:Hd ((k+1)*56<=140737488355328):=Z_ (by have D:=aC.o;rw[HQ.o]at D;simp at D;omega);have aA:=Z_ (HX.o.trans ag.o);clear ad aj ai;have bv:Hd (some w3.heap.size≠u2.ownBlock):=Z_ (λ e=>by have D:=(HW.o.lt _ e.symm).2;have X:=c5.o;omega);have df:Hd (some g≠u2.ownBlock):=Z_ (λ e=>by have D:=(HW.o.lt _ e.symm).1;have X:=a6.o.old;have h3:=a6.o.grown.size;omega);have e7:0<m+1:=yC m;go_wp2_with fail
       go_region_held3 (λ W=>W.cell? ⟨w3.heap.size,0,none⟩=some (.bool ng)/\W.cell? ⟨w3.heap.size,1,none⟩=some (.slice am Z O)/\W.cell? ⟨g,q1.length*3+2,none⟩=some (.slice x.c.oa x.c.on x.c.oc)) (first|exact S0|exact S7|exact⟨Z1 _ S7.1,Z1 _ S7.2.1,Z1 _ S7.2.2⟩|exact S9)
        (first
         | (go_at_call 106;(with_reducible refine cC.o.mono ?_);rintro e w7 ⟨v7,rfl,a0,b6⟩;have aa:=Z_ b6;have S7:_/\_/\_:=zS (aa.o.cell S0.1) (zS (aa.o.cell S0.2.1) (aa.o.cell S0.2.2));have bu:=Z_ a0;obtain⟨a7,c7,rfl⟩:=a0.form;obtain⟨n7,az⟩:∃n,n=x.t.m.length:=⟨_,rfl⟩;rw[<-az];rw[<-az]at bu;have fr:=Z_ az
            have b1:=Z_ (Zp (Zp cB.o aa.o) (uO (uP w7) (.cells #[.bool ng,.slice am Z O,.slice a7 n7 c7] 54)));have cQ:=Z_ (Yj (Yj cz.o aa.o) (uO (uP w7) (.cells #[.bool ng,.slice am Z O,.slice a7 n7 c7] 54)));have aR:=Z_ (Wj w7 #[.bool ng,.slice am Z O,.slice a7 n7 c7] 54 (Xn rfl rfl rfl) rfl);have cF:=Z_ (zT (aA.o.trans aa.o).size (World.grownBy_alloc w7 (.cells #[.bool ng,.slice am Z O,.slice a7 n7 c7] 54) none).size);have bA:=Z_ ((aA.o.trans aa.o).alloc (.cells #[.bool ng,.slice am Z O,.slice a7 n7 c7] 54));have aP:=Z_ (zS (Z1 (.cells #[.bool ng,.slice am Z O,.slice a7 n7 c7] 54) S7.1) (zS (Z1 (.cells #[.bool ng,.slice am Z O,.slice a7 n7 c7] 54) S7.2.1) (Z1 (.cells #[.bool ng,.slice am Z O,.slice a7 n7 c7] 54) S7.2.2)));clear b6 a0 az)
         |(refine XE rfl (.tmp 47) (.tmp 55) 35 rfl w2.heap.size 54 j0 (.agg #[.bool false,.slice none 0 0,.slice none 0 0]) 3 56 Tryz.underlying35 hj eB eu d6 rfl (yC _) _ k ys rfl b1.o (some ⟨w7.heap.size,0,none⟩) 1 1 _ rfl aR.o db.o cP.o cF.o ?_;intro v9 w9 U hg bt;have dp:=Z_ U;have dF:=Z_ hg;have cx:=Z_ bt;have dq:=Z_ (XH bA.o b1.o hg);have S9:_/\_/\_:=zS (hg.cell aP.o.1 bv.o) (zS (hg.cell aP.o.2.1 bv.o) (hg.cell aP.o.2.2 df.o));clear U hg bt))
       all_goals
        go_wp2
        go_roundw
        case rel=>
         refine⟨q1++x :: r1,([]:List (TermIn S w1)),_,m+1-cn,cl-cn,k+1,ys++(#[.bool ng,.slice am Z O,.slice a7 n7 c7]:Array Value).toList,ps ++ [(z,x.t.m)],?_,rfl,af.o.1,?_,by omega,by omega,dq.o,dp.o,?_,?_,λ z' hz'=>?_,?_⟩
         ·show _=_;rw[HQ.o,I.o];simp
         ·intro h;have X:=af.o.2
          try rw[if_neg (by omega)]
          congr 2
          simp;omega
         ·have bN:z0v (Yy w2 (w7.alloc (.cells #[.bool ng,.slice am Z O,.slice a7 n7 c7] 54)) u2) (w7.alloc (.cells #[.bool ng,.slice am Z O,.slice a7 n7 c7] 54)) (#[.bool ng,.slice am Z O,.slice a7 n7 c7]:Array Value).toList [⟨Z8 z,x.t.m⟩]:=by
           rw[bl.o]
           refine z0v.single (t:=⟨Z8 z,x.t.m⟩) ((c6.o _ ((aS.o.trans aa.o).alloc _)).to (uN _ _) (λ j hj=>⟨⟨zT HX.o.size hj.1.1,hj.1.2⟩,λ e=>?_⟩)) ((bu.o.ext (uO (uP w7) _) (λ j hj=>hj.2)).to (uN _ _) (λ j hj=>⟨⟨zT (HX.o.trans aF.o).size hj.1,by rw[z00];have:=hj.2;omega⟩,λ e=>?_⟩))
           ·have D:=(HW.o.lt _ e.symm).2;have X:=hj.1.1;omega
           ·have D:=(HW.o.lt _ e.symm).2;have X:=hj.1;have h3:=aF.o.size;simp at X;omega
          have b3:=cQ.o.append bN;have e:Z5 (ps ++ [(z,x.t.m)])=Z5 ps ++ [⟨Z8 z,x.t.m⟩]:=by unfold Z5;rw[xl];rfl
          show z0v _ _ _ _;rw[e];exact Vs b3 dF.o cx.o (zR _)
         ·show _=_;rw[bn.o];simp
         ·have D:=bm.o _ (aG.o z' hz');rw[show Ym z x.t.m=[(z,x.t.m)] by unfold Ym;rw[if_neg hz]]at D;simpa using D
         ·simp;omega
        case measure=>have X:=af.o.2;simp only[Yr];omega
     |cons y r2=>
      have ch:cn<m+1:=by rw[a8.o,aH.o,I.o];simp
      have cg:decide ((cn:Int)<(m:Int)+1)=true:=decide_eq_true (by omega);have dm:(cn:Int)<(m:Int)+1:=by omega
      have c4:(0:Int)<=(cn:Int):=by omega
      have d3:q[q1.length+cn]? = some y:=by
       rw[a8.o,HQ.o,I.o,show q1++x :: (r1++y :: r2)=(q1++x :: r1)++y :: r2 by simp,show q1.length+(r1.length+1)=(q1++x :: r1).length by simp];exact WL _ _ _
      have L0:=λ Y:Later wr=>((a6.o.later (av.o.trans Y.h)).get3 d3).1;simp only[zr,y8]at L0;have LX:=λ Y:Later wr=>Y.h.cell d2;have a2:=λ Y=>(L0 Y).2.2;have fA:=Z_ (λ W (hW:Ext wr W)=>L0 ⟨W,hW⟩);have eh:=UV y.may x.may;have CO:=Z_ (λ Y:Later wr=>Se (S:=S) (.slice y.c.oa y.c.on y.c.oc) (.slice x.c.oa x.c.on x.c.oc) y.t.m x.t.m Y.w' (y.ho.to (ap.o _ (av.o.trans Y.h)).1 (λ _ h=>h)) (x.ho.to (ap.o _ (av.o.trans Y.h)).1 (λ _ h=>h)) (ap.o _ (av.o.trans Y.h)).2);obtain⟨od1,od2⟩:=QG y.t.m x.t.m;have en:=Z_ eh;generalize XF y.t.m x.t.m=od at *;clear eh L0 d3
      by_cases h0:od=0
      ·have fz:(od == 0)=true:=by rw[beq_iff_eq];exact h0
       have H0:=Z_ h0;clear h0;go_wp2;refine Zh (by kernel_rfl) (by kernel_rfl) ?_
       repeat (go_big_quiet_step (first|(go_at_call 55;exact uL (CO.o _))))
       refine wpQuiet_nil ?_;intro W2 K;have al:=Z_ K;have bb:Hd (w3.heap.size<wr.heap.size):=Z_ (Zj k0)
       have bg:Hd ((Z8 z).mag.length<=40000000000000):=Z_ (by
        rw[z54,HZ.o]
        refine zT (Qu (k:=L) ?_ ?_ ?_) (by omega)
        ·exact WW (Ws x.hm.lt) (aB.o x cp.o)
        ·intro u hu;obtain⟨t,ht,rfl⟩:=zG.1 hu;obtain⟨y',ax,rfl⟩:=zG.1 ht;exact WW (Ws y'.hm.lt) (aB.o y' (by rw[HQ.o,I.o];simp[ax]))
        ·have D:=aH.o;have X:=aC.o;rw[HQ.o]at X;rw[I.o]at D X;have bB:Z9^2=18446744073709551616:=by decide
         rw[bB];simp[toQ,toP]at D X⊢
         omega)
       have fk:=Z_ (λ W (hW:Ext W2 W)=>TI (S:=λ k=>S k∨Vd w4 wr w3.heap.size k) (.agg #[.bool ng,.slice am Z O]) (.agg #[.bool y.c.neg,.slice y.c.ma y.c.mn y.c.mc]) (Z8 z) y.t.c W ⟨_,by rw[bl.o],b2.o.to (uM (al.o.trans hW) (λ k J=>J.1.2)) (λ k J=>.inr J)⟩ ⟨_,by rw[y.neg],y.hm.to (ap.o _ (av.o.trans (al.o.trans hW))).1 (λ k J=>.inl J)⟩ (λ k J=>by
        rcases J with J|J
        ·exact(ap.o _ (av.o.trans (al.o.trans hW))).2 k J
        ·exact zU J.1.2 (al.o.trans hW).size) bg.o (by have:=aB.o y (by rw[HQ.o,I.o];simp);omega))
       have hd:=K.drew;have s0:=K.cell k0;have s1:=K.cell k1;obtain⟨s2,s3,-⟩:=fA.o _ K;have fh:=Z_ (λ W (hW:Ext wr W)=>zS (hW.cell k0) (zS (hW.cell k1) (zS (hW.free bb.o k2) (hW.free bb.o k3))));have e9:=Z_ hd;have em:=Z_ ((uP W2).drew);clear a2 LX k0 k1 k2 k3 d0 d1 d2 CO K hd cg dm c4;have dm:(cn:Int)<(m:Int)+1:=by omega
       have c4:(0:Int)<=(cn:Int):=by omega
       go_wp2_with fail
       go_region_with (first
         |(go_at_call 61;(with_reducible refine(fk.o _ em.o).mono ?_);rintro e w5 ⟨v5,rfl,⟨vm5,rfl,cc⟩,au⟩;have cq:=Z_ (e9.o.trans au);obtain⟨e0,e1,e2,e3⟩:=fh.o _ cq.o;rw[z09]at cc⊢;have ec:=Z_ cc;obtain⟨fm,fx,rfl⟩:=cc.form;obtain⟨fq,bx⟩:∃b,b=(Z8 (z+Z6 y.t.c)).neg:=⟨_,rfl⟩;obtain⟨ft,a4⟩:∃b,b=(Z8 (z+Z6 y.t.c)).mag.length:=⟨_,rfl⟩;rw[<-bx,<-a4];rw[<-a4]at ec;have ep:=Z_ bx;have eo:=Z_ a4;have ba:=Z_ (zS e0 (zS e1 (zS e2 e3)));have HX55:=Z_ au;clear cc au bx a4))
       all_goals
        go_wp2
        go_roundw
        case rel=>
         refine⟨r1 ++ [y],r2,cn+1,z+Z6 y.t.c,fq,fm,ft,fx,?_,by go_num,?_,by omega,?_,?_,ep.o,eo.o,ar.o.trans ((uP wr).trans (cq.o)) |>.set2 c5.o _ _,(YY _ _ ba.o.1 ba.o.2.1).1,(YY _ _ ba.o.1 ba.o.2.1).2,Zg (Zg ba.o.2.2.1),Zg (Zg ba.o.2.2.2),?_⟩
         ·show _=_;rw[I.o];simp
         ·show _=_;rw[a8.o];simp
         ·intro u hu
          rcases zC.1 hu with hu|hu
          ·exact dr.o u hu
          ·rw[zQ.1 hu];have D:=en.o;rw[H0.o]at D;exact(Vh y.may x.may).1 D.symm
         ·show _=_;rw[HZ.o,show toQ (r1 ++ [y])=toQ r1 ++ [(Z6 y.t.c,y.t.m)] by simp[toQ,toP],Dj];simp only;omega
         ·refine Z_ (ec.o.to (ur (λ h=>?_) _ _) (λ k J=>⟨⟨?_,?_⟩,?_⟩))
          ·have D:=h.1;have X:=al.o.size;have h3:=bb.o;simp at D;omega
          ·have D:=J.1;have X:=al.o.size;have h3:=ar.o.size;simp at D;omega
          ·rw[z2m];exact J.2
          ·have D:=J.1;have X:=al.o.size;have h3:=bb.o;simp at D;omega
        case measure=>simp only[intOf];omega
      ·have fz:(od == 0)=false:=by rw[beq_eq_false_iff_ne];exact h0
       have cG:Hd (∀u∈(toQ (y :: r2)).head?,u.2≠x.t.m):=Z_ (λ u hu=>by
        simp[toQ,toP]at hu;subst hu;intro e;simp only at e;have D:=en.o;rw[e,TQ _ x.may]at D
        exact h0 D)
       have H0:=Z_ h0;clear h0;go_wp2;refine Zh (by kernel_rfl) (by kernel_rfl) ?_
       repeat (go_big_quiet_step (first|(go_at_call 55;exact uL (CO.o _))))
       refine wpQuiet_nil ?_;intro W2 K;have al:=Z_ K;clear a2 LX CO cg dm c4;have bb:Hd (w3.heap.size<wr.heap.size):=Z_ (Zj k0);have aN:=K.cell k0;have a3:=K.cell k1
       have bg:Hd ((Z8 z).mag.length<=40000000000000):=Z_ (by
        rw[z54,HZ.o]
        refine zT (Qu (k:=L) ?_ ?_ ?_) (by omega)
        ·exact WW (Ws x.hm.lt) (aB.o x cp.o)
        ·intro u hu;obtain⟨t,ht,rfl⟩:=zG.1 hu;obtain⟨y',ax,rfl⟩:=zG.1 ht;exact WW (Ws y'.hm.lt) (aB.o y' (by rw[HQ.o,I.o];simp[ax]))
        ·have D:=aH.o;have X:=aC.o;rw[HQ.o]at X;rw[I.o]at D X;have bB:Z9^2=18446744073709551616:=by decide
         rw[bB];simp[toQ,toP]at D X⊢
         omega)
       have af:Hd (m+1-cn=(y :: r2).length/\cn=r1.length+1):=Z_ (by
        have D:=aH.o;rw[I.o]at D;have X:=a8.o;simp at D⊢
        omega)
       have aG:Hd (∀z',Coll (toQ (y :: r2)) z'->Coll (toQ (x :: r)) (Ym z x.t.m++z')):=Z_ (λ z' hz'=>by
        have D:=Coll.group (Z6 x.t.c,x.t.m) (toQ r1) (toQ (y :: r2)) z' (λ u hu=>by
         obtain⟨t,ht,rfl⟩:=zG.1 hu;obtain⟨y',ax,rfl⟩:=zG.1 ht
         exact dr.o y' ax) cG.o hz'
        rw[HZ.o,I.o];have e:toQ (x :: (r1++(y :: r2)))=(Z6 x.t.c,x.t.m) :: toQ r1++toQ (y :: r2):=by simp[toQ,toP]
        rw[e]
        exact D)
       have CS:=Z_ (X5 (S:=Vd w4 wr w3.heap.size) (.agg #[.bool ng,.slice am Z O]) (Z8 z) W2 ⟨_,by rw[bl.o],b2.o.to (uM K (λ k J=>J.1.2)) (λ _ h=>h)⟩ (λ k J=>zU J.1.2 K.size) (by have:=bg.o;omega));have fB:=Z_ (zS (K.cell d0) (zS (K.cell d1) (K.cell d2)));have aq:Zx (Z6 (Z8 z))=Zx z:=by rw[z09]
       clear k0 k1 k2 k3 d0 d1 d2 K;go_wp2_with fail;(with_reducible refine CS.o.mono ?_);rw[aq];rintro e w6 ⟨rfl,ah⟩;have ae:=Z_ (al.o.trans ah);obtain⟨sg,ac⟩:∃s,s=Zx z:=⟨_,rfl⟩
       rw[<-ac];have cA:-1<=sg/\sg<=1:=by rw[ac];unfold Zx;rcases Uu z 0 with h|h|h<;>omega
       obtain⟨dG,ez⟩:=cA;have el:=Z_ ac;have aj:=ah.cell aN;have ai:=ah.cell a3;have e5:cn<=m+1:=d5
       by_cases hz:z=0
       ·have hb:(sg != 0)=false:=by rw[ac,hz];decide
        have cR:=Z_ hz;clear aN a3 aq ac hz ah;go_wp2
        go_roundw
        case rel=>
         refine⟨q1++x :: r1,(y :: r2),_,m+1-cn,cl-cn,k,ys,ps,?_,rfl,af.o.1,?_,by omega,by omega,HX.o.trans (ar.o.trans ae.o),Zp HW.o (ar.o.trans ae.o),Yj HY.o (ar.o.trans ae.o),bn.o,λ z' hz'=>?_,?_⟩
         ·show _=_;rw[HQ.o,I.o];simp
         ·intro h;have X:=af.o.2
          try rw[if_neg (by omega)]
          congr 2
          simp;omega
         ·have D:=aG.o z' hz';rw[cR.o]at D;exact bm.o z' D
         ·simp;omega
        case measure=>have X:=af.o.2;simp only[Yr];omega
       ·have hb:(sg != 0)=true:=by
         rw[ac,bne_iff_ne];unfold Zx cmpI
         split<;>(try split)<;>omega
        clear aN a3 aq ac ah;have ad:Ext w4 w6:=ar.o.trans ae.o;have aF:=Z_ ad;have aS:=Z_ ((uP w6).drew);have ag:=Z_ ad.drew;have S0:_/\_/\_:=zS (aS.o.cell aj) (zS (aS.o.cell ai) ((ad.drew).cell c2));have c6:Hd (∀W,Ext w6 W->U32s (Vd w4 W w3.heap.size) W (.slice am Z O) (Z8 z).mag):=Z_ (λ W hW=>b2.o.to (uM (ae.o.trans hW) (λ k J=>J.1.2)) (λ k J=>⟨⟨J.1.1,zU J.1.2 (ae.o.trans hW).size⟩,J.2⟩));have cC:=Z_ (Tq (S:=S) (.slice x.c.oa x.c.on x.c.oc) x.t.m w6.drew (x.ho.to (ap.o _ (HX.o.trans ag.o)).1 (λ _ h=>h)) (ap.o _ (HX.o.trans ag.o)).2 (zT (WR x.may) (by decide)));have cB:=Z_ (Zp HW.o ag.o);have cz:=Z_ (Yj HY.o ag.o);have eq:=Z_ (zS aj ai);have db:Hd (k+1<=maxLen):=Z_ (by have D:=aC.o;rw[HQ.o]at D;simp at D;unfold maxLen;omega);have cP:Hd ((k+1)*56<=140737488355328):=Z_ (by have D:=aC.o;rw[HQ.o]at D;simp at D;omega);have aA:=Z_ (HX.o.trans ag.o);clear ad aj ai;have bv:Hd (some w3.heap.size≠u2.ownBlock):=Z_ (λ e=>by have D:=(HW.o.lt _ e.symm).2;have X:=c5.o;omega);have df:Hd (some g≠u2.ownBlock):=Z_ (λ e=>by have D:=(HW.o.lt _ e.symm).1;have X:=a6.o.old;have h3:=a6.o.grown.size;omega);have e7:0<m+1:=yC m;go_wp2_with fail
        go_region_held3 (λ W=>W.cell? ⟨w3.heap.size,0,none⟩=some (.bool ng)/\W.cell? ⟨w3.heap.size,1,none⟩=some (.slice am Z O)/\W.cell? ⟨g,q1.length*3+2,none⟩=some (.slice x.c.oa x.c.on x.c.oc)) (first|exact S0|exact S7|exact⟨Z1 _ S7.1,Z1 _ S7.2.1,Z1 _ S7.2.2⟩|exact S9)
         (first
          | (go_at_call 106;(with_reducible refine cC.o.mono ?_);rintro e w7 ⟨v7,rfl,a0,b6⟩;have aa:=Z_ b6;have S7:_/\_/\_:=zS (aa.o.cell S0.1) (zS (aa.o.cell S0.2.1) (aa.o.cell S0.2.2));have bu:=Z_ a0;obtain⟨a7,c7,rfl⟩:=a0.form;obtain⟨n7,az⟩:∃n,n=x.t.m.length:=⟨_,rfl⟩;rw[<-az];rw[<-az]at bu;have fr:=Z_ az
             have b1:=Z_ (Zp (Zp cB.o aa.o) (uO (uP w7) (.cells #[.bool ng,.slice am Z O,.slice a7 n7 c7] 54)));have cQ:=Z_ (Yj (Yj cz.o aa.o) (uO (uP w7) (.cells #[.bool ng,.slice am Z O,.slice a7 n7 c7] 54)));have aR:=Z_ (Wj w7 #[.bool ng,.slice am Z O,.slice a7 n7 c7] 54 (Xn rfl rfl rfl) rfl);have cF:=Z_ (zT (aA.o.trans aa.o).size (World.grownBy_alloc w7 (.cells #[.bool ng,.slice am Z O,.slice a7 n7 c7] 54) none).size);have bA:=Z_ ((aA.o.trans aa.o).alloc (.cells #[.bool ng,.slice am Z O,.slice a7 n7 c7] 54));have aP:=Z_ (zS (Z1 (.cells #[.bool ng,.slice am Z O,.slice a7 n7 c7] 54) S7.1) (zS (Z1 (.cells #[.bool ng,.slice am Z O,.slice a7 n7 c7] 54) S7.2.1) (Z1 (.cells #[.bool ng,.slice am Z O,.slice a7 n7 c7] 54) S7.2.2)));clear b6 a0 az)
          |(refine XE rfl (.tmp 47) (.tmp 55) 35 rfl w2.heap.size 54 j0 (.agg #[.bool false,.slice none 0 0,.slice none 0 0]) 3 56 Tryz.underlying35 hj eB eu d6 rfl (yC _) _ k ys rfl b1.o (some ⟨w7.heap.size,0,none⟩) 1 1 _ rfl aR.o db.o cP.o cF.o ?_;intro v9 w9 U hg bt;have dp:=Z_ U;have dF:=Z_ hg;have cx:=Z_ bt;have dq:=Z_ (XH bA.o b1.o hg);have S9:_/\_/\_:=zS (hg.cell aP.o.1 bv.o) (zS (hg.cell aP.o.2.1 bv.o) (hg.cell aP.o.2.2 df.o));clear U hg bt))
        all_goals
         go_wp2
         go_roundw
         case rel=>
          refine⟨q1++x :: r1,(y :: r2),_,m+1-cn,cl-cn,k+1,ys++(#[.bool ng,.slice am Z O,.slice a7 n7 c7]:Array Value).toList,ps ++ [(z,x.t.m)],?_,rfl,af.o.1,?_,by omega,by omega,dq.o,dp.o,?_,?_,λ z' hz'=>?_,?_⟩
          ·show _=_;rw[HQ.o,I.o];simp
          ·intro h;have X:=af.o.2
           try rw[if_neg (by omega)]
           congr 2
           simp;omega
          ·have bN:z0v (Yy w2 (w7.alloc (.cells #[.bool ng,.slice am Z O,.slice a7 n7 c7] 54)) u2) (w7.alloc (.cells #[.bool ng,.slice am Z O,.slice a7 n7 c7] 54)) (#[.bool ng,.slice am Z O,.slice a7 n7 c7]:Array Value).toList [⟨Z8 z,x.t.m⟩]:=by
            rw[bl.o]
            refine z0v.single (t:=⟨Z8 z,x.t.m⟩) ((c6.o _ ((aS.o.trans aa.o).alloc _)).to (uN _ _) (λ j hj=>⟨⟨zT HX.o.size hj.1.1,hj.1.2⟩,λ e=>?_⟩)) ((bu.o.ext (uO (uP w7) _) (λ j hj=>hj.2)).to (uN _ _) (λ j hj=>⟨⟨zT (HX.o.trans aF.o).size hj.1,by rw[z00];have:=hj.2;omega⟩,λ e=>?_⟩))
            ·have D:=(HW.o.lt _ e.symm).2;have X:=hj.1.1;omega
            ·have D:=(HW.o.lt _ e.symm).2;have X:=hj.1;have h3:=aF.o.size;simp at X;omega
           have b3:=cQ.o.append bN;have e:Z5 (ps ++ [(z,x.t.m)])=Z5 ps ++ [⟨Z8 z,x.t.m⟩]:=by unfold Z5;rw[xl];rfl
           show z0v _ _ _ _;rw[e];exact Vs b3 dF.o cx.o (zR _)
          ·show _=_;rw[bn.o];simp
          ·have D:=bm.o _ (aG.o z' hz');rw[show Ym z x.t.m=[(z,x.t.m)] by unfold Ym;rw[if_neg hz]]at D;simpa using D
          ·simp;omega
         case measure=>have X:=af.o.2;simp only[Yr];omega
end
section
open Go.RowKit
theorem R7{S:Nat->Prop}(v:Value)(ls:List (List RTerm))(w:World)(h:z1w S w v ls)(hS:∀k,S k->k<w.heap.size)(hr:US ls) :
  Calls Tryz.prog 123 #[v] w λ e w'=>e=.returned (.bool (ls.all ZR))/\Ext w w':=by
 have hnot:∀(x:Bool) (w:World),(Op.unary .not (.bool x)).run Tryz.prog w=.ok (.bool (!x)) w:=λ _ _=>rfl;have H:=Z_ h;have HR:=Z_ hr;have aa:=h.len_le;obtain⟨A,c,rfl⟩:=h.form;obtain⟨n,z⟩:∃n,n=ls.length:=⟨_,rfl⟩
 rw[<-z]at H aa⊢;have HN:=Z_ z;clear h hr z
 go_enter Tryz.func123,Tryz.ntmps123
 go_wp2
 go_loopw [7] (λ i wr=>∃k:Nat,k<=n/\i=.int .i64 k/\Ext w wr/\Hd ((ls.take k).all ZR=true)) (λ i _=>n-(intOf i).toNat)
 case atStart=>exact⟨0,zL _,rfl,uP _,rfl⟩
 case round=>
  obtain⟨k,hk,rfl,I,HA⟩:=hrel;have X:=Z_ I
  by_cases U:k<n
  ·obtain⟨p,J⟩:=ZN (l:=ls) (j:=k) (by rw[<-HN.o];exact U);obtain⟨bl,off,vp,rfl,-,hn1,hm1,hSb,h1,O⟩:=(H.o.ext I hS).cellAt J;have HP:=Z_ J;have K:=Z_ (HR.o p (zP J));have C:=Z_ (Wy (S:=S) vp p wr O (ZM hS I) K.o);obtain⟨ap,cp,rfl⟩:=O.form;clear O J I
   cases hm:ZR p with
   |true=>
    have Z:=Z_ hm;rw[hm]at C;clear hm;go_wp2_with fail;(with_reducible refine C.o.mono ?_);rintro e w2 ⟨rfl,y⟩;have D:=Z_ (X.o.trans y);clear y;go_wp2
    go_roundw
    case rel=>exact⟨k+1,by omega,by go_num,D.o,by show _=_;rw[zv,HP.o,List.all_append,HA.o];simp[Z.o]⟩
    case measure=>simp only[intOf];omega
   |false=>
    have Z:=Z_ hm;rw[hm]at C;clear hm;go_wp2_with fail;(with_reducible refine C.o.mono ?_);rintro e w2 ⟨rfl,y⟩;have D:=Z_ (X.o.trans y);clear y;go_wp2;go_ret;exact⟨by rw[List.all_eq_false.2 ⟨p,zP HP.o,by rw[Z.o];exact wE⟩];rfl,D.o⟩
  ·obtain rfl:k=n:=by omega
   have HE:Hd (ls.all ZR=true):=Z_ (by have:=HA.o;rwa [zN (by rw[<-HN.o];exact zR _)]at this);clear I;go_wp2;go_ret;exact⟨by rw[HE.o];rfl,X.o⟩
theorem SY{S:Nat->Prop}{w:World}{vp vq:Value}{ps qs:List RTerm}(hp:z06 S w vp ps)(hq:z06 S w vq qs)(hS:∀k,S k->k<w.heap.size)(T:TypeId) :
  z1w (λ k=>S k∨k=w.heap.size) (w.alloc (.cells #[vp,vq] T)) (.slice (some ⟨w.heap.size,0,none⟩) 2 2) [ps,qs]:=by
 have z:Kept S w (w.alloc (.cells #[vp,vq] T)):=uw hS _;refine⟨w.heap.size,0,⟨_,2,rfl,zR _,by decide,λ _=>rfl,λ _=>.inr rfl⟩,λ j p hj=>?_⟩;have y:=Zy hj;simp only[zM,zo]at y
 match j,hj with
 |0,hj=>
  obtain rfl:ps=p:=by simpa using hj
  exact⟨vp,ZJ _ _ _ rfl rfl,hp.to z (λ _ h=>.inl h)⟩
 |1,hj=>
  obtain rfl:qs=p:=by simpa using hj
  exact⟨vq,ZJ _ _ _ rfl rfl,hq.to z (λ _ h=>.inl h)⟩
 |j+2,_=>omega
theorem UD{S:Nat->Prop}{w:World}(hS:∀k,S k->k<w.heap.size)(o:Obj):∀k,(S k∨k=w.heap.size)->k<(w.alloc o).heap.size:=λ k hk=>by
 rw[z00]
 rcases hk with hk|rfl
 ·have:=hS k hk;omega
 ·omega
theorem SH{ts:List RTerm}(h:ZR ts=true):∀t∈ts,Z3 t.m=true:=λ t ht=>by
 have:=(RY h).1 t ht;simp only[z2s,zK]at this;exact this.2
theorem Fw(p q:List RTerm):toP (p++q)=toP p++toP q:=xl
def Wg(w:World)(p:PZ):Ending->World->Prop:=λ e w'=>∃v',e=.returned (.tuple #[v',.int .i64 0])/\z06 (New w w') w' v' (Z5 p)/\Ext w w'
def K0(w:World)(c:Int):Ending->World->Prop:=λ e w'=>e=.returned (.tuple #[.slice none 0 0,.int .i64 c])/\Ext w w'
theorem Hy{S:Nat->Prop}(vp vq:Value)(ps qs:List RTerm)(w:World)(L:Nat)(hp:z06 S w vp ps)(hq:z06 S w vq qs)(hS:∀k,S k->k<w.heap.size)(hmp:ZR ps=true)(hmq:ZR qs=true)
  (hrp:∀t∈ps,t.c.mag.length<=L) (hrq:∀t∈qs,t.c.mag.length<=L) (hL:L<=10000000000) (hn:ps.length+qs.length<=1000000000000) :
  Calls Tryz.prog 84 #[vp,vq] w (Wg w (Zr (toP ps++toP qs))):=by
 have hnot:∀(x:Bool) (w:World),(Op.unary .not (.bool x)).run Tryz.prog w=.ok (.bool (!x)) w:=λ _ _=>rfl;have U:Ext w (w.alloc (.cells #[vp,vq] 35)):=uO (uP w) _
 have CA:=R7 _ [ps,qs] (w.alloc (.cells #[vp,vq] 35)) (SY hp hq hS _) (UD hS _) (λ p hp=>by
  simp only[zJ,List.not_mem_nil,or_false]at hp
  rcases hp with rfl|rfl
  ·exact λ t y=>zT (hrp t y) (by omega)
  ·exact λ t y=>zT (hrq t y) (by omega))
 rw[show [ps,qs].all ZR=true by simp[hmp,hmq]]at CA;have ae:=Z_ CA;have ac:=Z_ U;have CC:=λ(W:World) (hW:Ext w W)=>It _ [ps,qs] (W.alloc (.cells #[vp,vq] 35)) (SY (hp.ext hW hS) (hq.ext hW hS) (ZM hS hW) _) (UD (ZM hS hW) _) (by simpa using hn);have J:[ps,qs].flatten=ps++qs:=by simp
 rw[J]at CC;have ad:=Z_ CC
 have Z:=λ(W:World) (v:Value) (h:z06 (λ k=>k<W.heap.size) W v (ps++qs))=>U5 v (ps++qs) W L h (λ _ h=>h) (λ t y=>by
  rcases zC.1 y with y|y
  ·exact SH hmp t y
  ·exact SH hmq t y) (λ t y=>by
  rcases zC.1 y with y|y
  ·exact hrp t y
  ·exact hrq t y) hL (by simpa using hn)
 rw[Fw]at Z;have af:=Z_ Z;have ag:=Z_ hS;obtain⟨ap,cp,rfl⟩:=hp.form;obtain⟨aq,cq,rfl⟩:=hq.form;clear CA CC Z hp hq U hmp hmq hrp hrq J hS;unfold Wg;generalize Zr (toP ps++toP qs)=r at *
 go_enter Tryz.func84,Tryz.ntmps84
 go_wp2_with fail;(with_reducible refine ae.o.mono ?_);rintro e w1 ⟨rfl,hx⟩;have HX:=Z_ (ac.o.trans hx);clear hx;go_wp2_with fail;(with_reducible refine(ad.o _ HX.o).mono ?_);rintro e w2 ⟨v2,xs,rfl,D,z,I⟩;have HT:Hd (z06 (λ k=>k<w2.heap.size) w2 v2 (ps++qs)):=Z_ (Vk D (z.to (uN _ _) (λ k hk=>zU (UD (ZM ag.o HX.o) _ k hk) I.size)) (λ _ _ h=>h));have K:=Z_ (HX.o.trans ((uO (uP _) _).trans I));clear D z I;go_wp2_with fail;(with_reducible refine(af.o _ _ HT.o).mono ?_);rintro e w3 ⟨v3,rfl,X,O⟩;have aa:=Z_ (K.o.trans O);have ah:=Z_ (X.to (uN _ _) (uq K.o));clear X O;go_wp2;go_ret2;exact⟨v3,rfl,ah.o,aa.o⟩
end
section
open Go.RowKit
def Vu(F:Z7->Option Z7)(p:PZ):PZ:=p.filterMap λ t=>(F t.2).map λ m=>(t.1,m)
def WK(F:Z7->Option Z7)(ts:List RTerm):List RTerm:=ts.filterMap λ t=>(F t.m).map λ m=>⟨Z8 (Z6 t.c),m⟩
theorem FG(F:Z7->Option Z7)(ts:List RTerm):WK F ts=Z5 (Vu F (toP ts)):=by
 unfold WK Vu toP Z5
 induction ts with
 |nil=>rfl
 |cons t r ih=>
  rw[yh,ya,yh]
  cases h:F t.m with
  |none=>simpa using ih
  |some m=>simpa using ih
theorem Fb{F:Z7->Option Z7}{ts:List RTerm}{k:Nat}{t:RTerm}(h:ts[k]? = some t):WK F (ts.take (k+1))=WK F (ts.take k)++(match F t.m with|none=>[]|some m=>[⟨Z8 (Z6 t.c),m⟩]):=by
 unfold WK;rw[zv,h,List.filterMap_append]
 congr 1
 cases h2:F t.m<;>simp[h2]
theorem FS(F:Z7->Option Z7)(ts:List RTerm):(WK F ts).length<=ts.length:=List.length_filterMap_le _ _
abbrev QK(w:World)(g:Nat)(lb:Array Value)(F:Z7->Option Z7):Prop :=
 ∀(vt:Value) (t:RTerm) (W:World),Ext w W->zcp (Z2 W) W vt t->Z3 t.m=true->Calls Tryz.prog g (#[vt]++lb) W λ e W'=>∃vm,e=.returned (.tuple #[vm,.bool (F t.m).isSome])/\Ext W W'/\∀m,F t.m=some m->Pows (Z2 W') W' vm m/\m.length<=200
theorem M9{S:Nat->Prop}(g:Nat)(lb:Array Value)(eg:∀args w,(callFunc g args).run Tryz.prog w=.ok (.enter g args) w)(F:Z7->Option Z7)(v:Value)(ts:List RTerm)(w:World)(h:z06 S w v ts)(hS:∀k,S k->k<w.heap.size)(hr:Yk ts)(hn:ts.length<=1000000000000)
  (hP:QK w g lb F) :
  Calls Tryz.prog 145 #[v,.func (.func g) #[] lb] w λ e w'=>∃v',e=.returned v'/\z06 (New w w') w' v' (Z5 (Vu F (Zt ts)))/\Ext w w':=by
 have HP:=Z_ hP;have HC:=Z_ (OE v ts w h hS hr);have a6:Hd (okT (z3b ts)):=Z_ (by unfold z3b;split;exact h.okT;exact λ t Z=>by simp at Z)
 have aA:Hd (∀t∈z3b ts,Z3 t.m=true/\t.c.mag.length<=40000000000000):=Z_ (by
  unfold z3b
  split
  ·rename_i hm
   exact λ t Z=>⟨SH hm t Z,hr t Z⟩
  ·exact λ t Z=>by simp at Z)
 have al:Hd ((z3b ts).length<=1000000000000):=Z_ (by unfold z3b;split;exact hn;simp);have a5:Hd (Z5 (Vu F (Zt ts))=WK F (z3b ts)):=Z_ (by rw[<-TL,FG]);obtain⟨A,c,rfl⟩:=h.form;rw[a5.o];have HS:=Z_ hS;clear h hP hr hn a5 hS;obtain⟨ps,aC⟩:∃ps,ps=z3b ts:=⟨_,rfl⟩
 rw[<-aC]at HC a6 aA al⊢;clear aC
 go_enter Tryz.func145,Tryz.ntmps145
 go_wp2_with fail;(with_reducible refine HC.o.mono ?_);rintro e w1 ⟨v1,rfl,ag,ax⟩;have ac:=Z_ ax;have HT:=Z_ (ag.to (S':=Z2 w1) (uN _ _) (λ k h=>zU (HS.o k h) ax.size));have bn:=ag.len_le;obtain⟨a1,c1,rfl⟩:=ag.form;obtain⟨n,au⟩:∃n,n=ps.length:=⟨_,rfl⟩
 rw[<-au]at HT bn al⊢;have HN:=Z_ au;clear ag ax au HC;go_wp2
 go_loopw [4,12] (λ o i wr=>∃(k m:Nat) (xs:List Value),k<=n/\i=.int .i64 k/\Ext w1 wr/\Hd (m=(WK F (ps.take k)).length)/\Hd (wr.ownsRow w1.heap.size 54 3 o m xs)/\Hd (z0v (Yy w1 wr o) wr xs (WK F (ps.take k)))) (λ _ i _=>n-(intOf i).toNat)
 case atStart=>exact⟨0,0,[],zL _,rfl,uP _,rfl,World.ownsRow_nil _ _ _ _,rfl⟩
 case round=>
  obtain⟨k,m,xs,hk,rfl,hx,HM,HW,HY⟩:=hrel;have HX:=Z_ hx
  by_cases bl:k<n
  ·obtain⟨t,Z⟩:=ZN (l:=ps) (j:=k) (by rw[<-HN.o];exact bl);obtain⟨b,off,vd,vo,rfl,-,hn1,hm1,hSb,h1,h2,h3,h4,h5⟩:=(HT.o.onS hx (λ _ h=>h)).cellAt Z;have U:=Z_ (Fb (F:=F) Z);have aB:=Z_ (aA.o t (zP Z));have D:Ext wr (wr.alloc (.cells #[.bool t.c.neg,vd,vo] 54)):=uO (uP wr) _;have I:=Z_ (HP.o (.agg #[.bool t.c.neg,vd,vo]) t _ (ac.o.trans (hx.trans D)) ⟨vd,vo,rfl,h4.to (uM D (λ k h=>zU h hx.size)) (λ k h=>zU h (hx.trans D).size),h5.to (uM D (λ k h=>zU h hx.size)) (λ k h=>zU h (hx.trans D).size)⟩ aB.o.1);have H4:=Z_ h4;have X:=Z_ D;obtain⟨ad,cd,rfl⟩:=h4.form;obtain⟨ao,co,rfl⟩:=h5.form;obtain⟨ng,ae⟩:∃b,b=t.c.neg:=⟨_,rfl⟩
   obtain⟨nd,aa⟩:∃b,b=t.c.mag.length:=⟨_,rfl⟩
   obtain⟨nm,av⟩:∃b,b=t.m.length:=⟨_,rfl⟩
   have bf:=Z_ ae;rw[<-aa]at H4;rw[<-ae,<-aa,<-av]at I X;rw[<-ae]at h1;rw[<-aa]at h2;rw[<-av]at h3;clear Z h4 h5 hx D ae aa av
   cases hF:F t.m with
   |none=>
    simp only[hF]at I U;have ar:=Z_ I.o;clear I hF;go_wp2_with fail;(with_reducible refine ar.o.mono ?_);rintro e w2 ⟨vm,rfl,y,-⟩;have af:=Z_ (HX.o.trans (X.o.trans y));have z:=Z_ (X.o.trans y);clear y;go_wp2
    go_roundw
    case rel=>
     refine⟨k+1,m,xs,by omega,by go_num,af.o,?_,Zp HW.o z.o,?_⟩
     ·show _=_;rw[U.o,yj];exact HM.o
     ·show z0v _ _ _ _;rw[U.o,yj];exact Yj HY.o z.o
    case measure=>simp only[intOf];omega
   |some mm=>
    simp only[hF]at I U;have ar:=Z_ I.o;clear I hF;go_wp2_with fail;(with_reducible refine ar.o.mono ?_);rintro e w2 ⟨vm,rfl,y,aH⟩;obtain⟨aS,aR⟩:=aH mm rfl;have e0:=y.new_cell (i:=0) rfl;have e1:=y.new_cell (i:=1) rfl;have z:=Z_ (X.o.trans y);have af:=Z_ (HX.o.trans (X.o.trans y));have a8:=Z_ (TI (S:=Z2 wr) (.agg #[.bool ng,.slice ad nd cd]) (.agg #[.bool false,.slice none 0 0]) t.c ⟨false,[]⟩ w2 ⟨_,by rw[bf.o],(H4.o.to (S':=Z2 wr) (uN _ _) (λ k h=>zU h HX.o.size)).ext z.o (λ _ h=>h)⟩ (Qq _ _) (λ k h=>zU h z.o.size) aB.o.2 (by decide));rw[zaw,u_]at a8;have a9:=Z_ (λ(W:World) (hW:Ext w2 W)=>Tq vm mm W (aS.ext hW (λ _ h=>h)) (λ k h=>zU h hW.size) (zT aR (by decide)))
    have bg:Hd (m<=1000000000000):=Z_ (by
     rw[HM.o];have h3:=FS F (ps.take k);have h4:=al.o;rw[zD]at h3
     omega)
    clear aH aS aR y;go_wp2_with fail;(with_reducible refine a8.o.mono ?_);rintro e w3 ⟨v3,rfl,⟨vm3,rfl,az⟩,ay⟩;have ba:=Z_ (af.o.trans ay);have J:=Z_ ay;have aP:=Z_ az;obtain⟨a3,c3,rfl⟩:=az.form;clear ay az;obtain⟨n3,aq⟩:∃n,n=(Z8 (Z6 t.c)).mag.length:=⟨_,rfl⟩
    obtain⟨b3,aj⟩:∃n,n=(Z8 (Z6 t.c)).neg:=⟨_,rfl⟩
    rw[<-aq,<-aj];rw[<-aq]at aP;have bm:=Z_ aj;clear aq aj;go_wp2_with fail;(with_reducible refine(a9.o w3 J.o).mono ?_);rintro e w4 ⟨v4,rfl,ap,O⟩;have aG:=Z_ (ba.o.trans O);have aF:=Z_ (Zp (Zp HW.o z.o) (J.o.trans O))
    have ai:z0v (New w2 w4) w4 [.bool b3,.slice a3 n3 c3,v4] [⟨Z8 (Z6 t.c),mm⟩]:=by
     rw[bm.o];exact z0v.single (t:=⟨Z8 (Z6 t.c),mm⟩) (aP.o.to (uM O (λ _ h=>h.2)) (λ k h=>⟨h.1,zU h.2 O.size⟩)) (ap.to (uN _ _) (λ k h=>⟨zT J.o.size h.1,h.2⟩))
    have a0:=Z_ ((Yj HY.o (z.o.trans (J.o.trans O))).append (Ti (af.o.size) (Zp HW.o z.o) ai));obtain⟨a4,c4,rfl⟩:=ap.form;obtain⟨n4,a7⟩:∃n,n=mm.length:=⟨_,rfl⟩
    rw[<-a7]at a0⊢;clear ai ap O a7;go_wp2_with (at_builtin;refine VA _ rfl (.tmp 23) (.tmp 31) 35 rfl w1.heap.size 54 (.agg #[.bool false,.slice none 0 0,.slice none 0 0]) 3 56 Tryz.underlying35 uE rfl (by decide) _ m xs rfl aF.o #[.bool b3,.slice a3 n3 c3,.slice a4 n4 c4] rfl (Xn rfl rfl rfl) rfl bg.o (by decide) aG.o.size ?_;intro v5 w5 ah hg aN;have bs:=Z_ ah;have a2:=Z_ hg;have bb:=Z_ aN;clear ah hg aN)
    go_roundw
    case rel=>
     refine⟨k+1,m+1,xs++(#[.bool b3,.slice a3 n3 c3,.slice a4 n4 c4]:Array Value).toList,by omega,by go_num,XH aG.o aF.o a2.o,?_,bs.o,?_⟩
     ·show _=_;rw[U.o,zI,<-HM.o];rfl
     ·show z0v _ _ _ _;rw[U.o];exact Vs a0.o a2.o bb.o (zw _)
    case measure=>simp only[intOf];omega
  ·obtain rfl:n=k:=by omega
   have K:z0v (Yy w1 wr u4) wr xs (WK F ps):=by
    have:=HY.o
    rwa [zN (by rw[<-HN.o];exact zR _)]at this
   have hm:m=(WK F ps).length:=by
    have:=HM.o
    rwa [zN (by rw[<-HN.o];exact zR _)]at this
   have HO:=Z_ (Vk (S:=New w wr) (by rw[<-hm];exact HW.o) (K.to (uN _ _) (λ _ h=>⟨zT ac.o.size h.1.1,h.1.2⟩)) (λ k h1 h2=>⟨zT ac.o.size h1,h2⟩));clear hx K hm;go_wp2
   all_goals
    go_ret;exact⟨_,rfl,HO.o,ac.o.trans HX.o⟩
end
section
open Go.RowKit
theorem IA{m:Z7}{k:Nat}{x:Int×Int}{v:Int}(h:m[k]? = some x):Y3 (m.take (k+1)) v=if x.1=v then Y3 (m.take k) v else Y3 (m.take k) v ++ [x]:=by
 have:m.take (k+1)=m.take k ++ [x]:=by rw[zv,h];rfl
 rw[this];unfold Y3;rw[List.filter_append]
 split
 ·rename_i e
  simp[e]
 ·rename_i e
  simp[e]
theorem MS(m:Z7)(v:Int):(Y3 m v).length<=m.length:=List.length_filter_le _ _
theorem JC{m:Z7}(h:inBounds m)(p:Int×Int->Bool):inBounds (m.filter p):=λ x hx=>h x (List.mem_filter.1 hx).1
theorem PU(x y:Int):∀u∈(#[.int .i64 x,.int .i64 y]:Array Value).toList,u.oneCell'=true:=by
 intro u hu;simp at hu;rcases hu with rfl|rfl<;>rfl
theorem Hs{S:Nat->Prop}(v:Value)(m:Z7)(x:Int)(w:World)(h:Pows S w v m)(hS:∀k,S k->k<w.heap.size)(_hx:-9223372036854775808<=x/\x<=9223372036854775807) :
  Calls Tryz.prog 162 #[v,.int .i64 x] w λ e w'=>∃v',e=.returned v'/\Pows (New w w') w' v' (Y3 (z1s m) x)/\Ext w w':=by
 have H:=Z_ h;have HS:=Z_ hS;obtain⟨a,c,rfl⟩:=h.form;clear h hS;obtain⟨y,J⟩:∃y,y=z1s m:=⟨_,rfl⟩
 rw[<-J];have aa:=Z_ J;clear J
 go_enter Tryz.func162,Tryz.ntmps162
 go_wp2_with fail;refine(Qh _ m w H.o HS.o).mono ?_;rintro e w1 ⟨v',rfl,X,K⟩;have ai:=Z_ (ZM HS.o K);have ad:=Z_ K;have au:Hd (y.length<=200):=Z_ (by rw[aa.o];exact G1 m);rw[<-aa.o]at X;clear K H;have ap:=Z_ X.inBounds;have HP:=Z_ X;have al:=X.len_le;obtain⟨a',c',rfl⟩:=X.form;obtain⟨n,hn⟩:∃n,n=y.length:=⟨_,rfl⟩
 rw[<-hn]at HP al⊢;have HN:=Z_ hn;clear X hn;go_wp2
 go_loopw [4,10] (λ o i wr=>∃k:Nat,k<=n/\i=.int .i64 k/\Hd (wr.ownsRow w1.heap.size 56 2 o (Y3 (y.take k) x).length (YC (Y3 (y.take k) x)))/\Ext w1 wr) (λ _ i _=>n-(intOf i).toNat)
 case atStart=>exact⟨0,zL _,rfl,Z_ (World.ownsRow_nil _ _ _ _),uP _⟩
 case round=>
  obtain⟨k,hk,rfl,HO,D⟩:=hrel;have HX:=Z_ D
  by_cases aj:k<n
  ·obtain⟨t,ht⟩:=ZN (l:=y) (j:=k) (by rw[<-HN.o];exact aj);obtain⟨b,off,Z,hv,ac,hmax,⟨ar,ag⟩,O,h2⟩:=(HP.o.to (uM D ai.o) (λ _ h=>h)).at ht;obtain⟨rfl,-,rfl⟩:a'=some ⟨b,off,none⟩/\n=y.length/\c'=Z:=by simpa using hv
   have HE:=Z_ (IA (v:=x) ht);have aq:Hd ((Y3 (y.take k) x).length<=1000000000):=Z_ (zT (MS _ _) (by have:=au.o;rw[zD];omega));have HBS:=Z_ (zT D.size (zw _));rw[<-HN.o]at ac;clear hv ht D;obtain⟨u,z⟩:=t;simp only at O h2 ar ag HE
   by_cases U:u=x
   ·have hb:(u != x)=false:=by simpa using U
    have HU:=Z_ U;clear U;go_wp2
    go_roundw
    case rel=>exact⟨k+1,by omega,by go_num,Z_ (by rw[HE.o,if_pos HU.o];exact HO.o.alloc _),HX.o.alloc _⟩
    case measure=>simp only[intOf];omega
   ·have hb:(u != x)=true:=by simpa using U
    have HU:=Z_ U;clear U;have af:=Z_ (HO.o.alloc (.cells #[.int .i64 u,.int .i64 z] 56));have ae:Hd (w1.heap.size<=(wr.alloc (.cells #[.int .i64 u,.int .i64 z] 56)).heap.size):=Z_ (by rw[z00];exact zT HX.o.size (zw _));go_wp2_with (at_builtin;refine XK _ rfl (.tmp 18) (.tmp 20) 52 rfl w1.heap.size 56 (.agg #[.int .i64 0,.int .i64 0]) 2 16 Tryz.underlying52 uu rfl (by decide) _ _ _ rfl af.o #[.int .i64 u,.int .i64 z] rfl (PU _ _) (by rw[z00];rfl) aq.o (by decide) ae.o ?_;intro v1 w2 I hg _;have ah:=Z_ I;have HG:=Z_ hg;clear I hg)
    go_roundw
    case rel=>
     refine⟨k+1,by omega,by go_num,Z_ ?_,XH (HX.o.alloc _) af.o HG.o⟩;rw[HE.o,if_neg HU.o,z63,zI];have O:=ah.o;simpa[YC]using O
    case measure=>simp only[intOf];omega
  ·obtain rfl:n=k:=by omega
   have HT:Hd (y.take n=y):=Z_ (by rw[HN.o];exact yW);clear D;go_wp2
   all_goals
    go_ret;have O:=HO.o;rw[HT.o]at O;have h2:=(Ut O (JC ap.o _)).to (S':=New w wr) (uN _ _) (λ j hj=>⟨zT ad.o.size hj.1,hj.2⟩);exact⟨_,rfl,h2,ad.o.trans HX.o⟩
end
section
theorem F7{α β:Type}{f g:α->Option β}{l:List α}(h:∀x∈l,f x=g x):l.filterMap f=l.filterMap g:=by
 induction l with
 |nil=>rfl
 |cons x r ih=>rw[yh,yh,h x (by simp),ih (λ y hy=>h y (by simp[hy]))]
end
section
open Go.RowKit
theorem EH(w:World):QK w 146 #[] some:=by
 rintro vt t W K ⟨vm,vo,rfl,I,z⟩ y;have O:=Z_ z;have D:=WR y;have J:=Z_ (uO (uP W) (.cells #[.bool t.c.neg,vm,vo] 54));obtain⟨am,cm,rfl⟩:=I.form;obtain⟨ao,co,rfl⟩:=z.form;have U:=Z_ D;clear I z K y D;show Calls Tryz.prog 146 #[_] W _
 go_enter Tryz.func146,Tryz.ntmps146
 go_wp2
 all_goals
  go_ret2;exact⟨_,rfl,J.o,λ m y=>by cases y;exact⟨O.o.on J.o,U.o⟩⟩
def Tn(v e:Int)(m:Z7):Option Z7:=if(1<=v/\v<=200)/\ex m v=e then some (Y3 m v) else none
theorem BZ(w:World)(v d:Int)(bv bd:Nat)(g:1<=v/\v<=200)(hv:Zv v)(hd:Zv d)(c1:w.cell? ⟨bv,0,none⟩=some (.int .i64 v))(c2:w.cell? ⟨bd,0,none⟩=some (.int .i64 d)) :
  QK w 161 #[.pointer (some ⟨bv,0,none⟩),.pointer (some ⟨bd,0,none⟩)] (Tn v d):=by
 rintro vt t W hW ⟨vm,vo,rfl,hu,hp⟩ X;have hl:=WR X;have HX:=Z_ (uO (uP W) (.cells #[.bool t.c.neg,vm,vo] 54));have k1:=(hW.trans HX.o).drew.cell c1;have k2:=(hW.trans HX.o).drew.cell c2;have k3:(W.alloc (.cells #[.bool t.c.neg,vm,vo] 54)).drew.cell? ⟨W.heap.size,2,none⟩=some vo:=ZJ W #[.bool t.c.neg,vm,vo] 54 (b:=W.heap.size) (i:=2) (v:=vo) rfl rfl;have S0:_/\_/\_:=zS k1 (zS k2 k3);have I:=Z_ S0;have HC:=Z_ (λ(Y:World) (hY:Ext W Y)=>Ng (S:=Z2 W) vo t.m v Y (hp.ext hY (λ _ h=>h)) (λ _ h=>zU h hY.size) hv);have HD:=Z_ (λ(Y:World) (hY:Ext W Y)=>Hs (S:=Z2 W) vo t.m v Y (hp.ext hY (λ _ h=>h)) (λ _ h=>zU h hY.size) hv);rw[T6 X]at HC HD;have ag:=X6 X v;have ac:Hd ((Y3 t.m v).length<=200):=Z_ (zT (MS _ _) hl);obtain⟨am,cm,rfl⟩:=hu.form;obtain⟨ao,co,rfl⟩:=hp.form;have U:=Z_ HX.o.drew;obtain⟨hd1,hd2⟩:=hd;obtain⟨hv1,hv2⟩:=hv;unfold Tn;obtain⟨x,hx⟩:∃x,x=ex t.m v:=⟨_,rfl⟩
 rw[<-hx]at ag HC⊢;obtain⟨mw,aa⟩:∃mw,mw=Y3 t.m v:=⟨_,rfl⟩
 rw[<-aa]at HD ac⊢;clear hu hp hW X hl hx aa k1 k2 k3 c1 c2 S0;show Calls Tryz.prog 161 #[_,_,_] W _;have hq:decide (v<=200)=true:=decide_eq_true (by omega);have hq2:decide (1<=v)=true:=decide_eq_true (by omega)
 by_cases D:x=d
 ·have ah:(x == d)=true:=by rw[beq_iff_eq];exact D
  rw[if_pos ⟨g,D⟩];have ae:=Z_ D;clear D
  go_enter Tryz.func161,Tryz.ntmps161
  go_wp2;have S0:=I.o
  go_region_held3 (λ Y=>Y.cell? ⟨bv,0,none⟩=some (.int .i64 v)/\Y.cell? ⟨bd,0,none⟩=some (.int .i64 d)/\Y.cell? ⟨W.heap.size,2,none⟩=some (.slice ao t.m.length co)) (first|exact S0|exact S1|exact S2)
   (first
    | (go_at_call 162;refine(HD.o _ U.o).mono ?_
       rintro e w1 ⟨v1,rfl,K,z⟩;have O:=Z_ (U.o.trans z);have ad:=Z_ (K.to (S':=Z2 w1) (uN _ _) uK);have qf:=K.form;obtain⟨a1,c1,rfl⟩:=qf;have S1:_/\_/\_:=zS (z.cell I.o.1) (zS (z.cell I.o.2.1) (z.cell I.o.2.2));have J:=Z_ S1;clear K z)
    | (go_at_call 75;refine(HC.o _ O.o).mono ?_
       rintro e w2 ⟨rfl,y⟩;have Z:=Z_ (O.o.trans y);have af:=Z_ (ad.o.on y);have S2:_/\_/\_:=zS (y.cell J.o.1) (zS (y.cell J.o.2.1) (y.cell J.o.2.2));clear y))
  all_goals
   go_wp2
   all_goals
    go_ret2;exact⟨_,rfl,Z.o,λ m X=>by cases X;exact⟨af.o,ac.o⟩⟩
 ·have ah:(x == d)=false:=by rw[beq_eq_false_iff_ne];exact D
  rw[if_neg (λ h=>D h.2)];have ae:=Z_ D;clear D
  go_enter Tryz.func161,Tryz.ntmps161
  go_wp2;have S0:=I.o
  go_region_held3 (λ Y=>Y.cell? ⟨bv,0,none⟩=some (.int .i64 v)/\Y.cell? ⟨bd,0,none⟩=some (.int .i64 d)/\Y.cell? ⟨W.heap.size,2,none⟩=some (.slice ao t.m.length co)) (first|exact S0|exact S1|exact S2)
   (first
    | (go_at_call 162;refine(HD.o _ U.o).mono ?_
       rintro e w1 ⟨v1,rfl,K,z⟩;have O:=Z_ (U.o.trans z);have ad:=Z_ (K.to (S':=Z2 w1) (uN _ _) uK);have qf:=K.form;obtain⟨a1,c1,rfl⟩:=qf;have S1:_/\_/\_:=zS (z.cell I.o.1) (zS (z.cell I.o.2.1) (z.cell I.o.2.2));have J:=Z_ S1;clear K z)
    | (go_at_call 75;refine(HC.o _ O.o).mono ?_
       rintro e w2 ⟨rfl,y⟩;have Z:=Z_ (O.o.trans y);have S2:_/\_/\_:=zS (y.cell J.o.1) (zS (y.cell J.o.2.1) (y.cell J.o.2.2));clear y))
  all_goals
   go_wp2
   all_goals
    go_ret2;exact⟨_,rfl,Z.o,λ m X=>by cases X⟩
theorem Du{p:PZ}{v:Int}(hv:1<=v/\v<=200)(e:Int):Vu (Tn v e) p=YM p v e:=by
 unfold Vu YM;refine F7 (λ t _=>?_);unfold Tn WB
 by_cases h:ex t.2 v=e
 ·rw[if_pos ⟨hv,h⟩,if_pos h];rfl
 ·rw[if_neg (λ g=>h g.2),if_neg h];rfl
theorem Jn(p:PZ):Vu some p=p:=by
 unfold Vu
 induction p with
 |nil=>rfl
 |cons t r ih=>rw[yh];exact congrArg (t :: ·) ih
theorem Pf{S:Nat->Prop}(v:Value)(ts:List RTerm)(x d:Int)(w:World)(h:z06 S w v ts)(hS:∀k,S k->k<w.heap.size)(hr:Yk ts)(hn:ts.length<=1000000000000)(hx:1<=x/\x<=200)(hd:Zv d) :
  Calls Tryz.prog 147 #[v,.int .i64 x,.int .i64 d] w λ e w'=>∃v',e=.returned v'/\z06 (New w w') w' v' (Z5 (YM (Zt ts) x d))/\Ext w w':=by
 have hmf:∀(fn:Fn) (first cap:Array Value) (w:World),(Instr.makeFunc fn first cap).run Tryz.prog w=.ok (.func fn first cap) w:=λ _ _ _ _=>rfl;have hi:Zv x:=by unfold Zv;omega
 have D:Ext w ((w.alloc (.cells #[.int .i64 x] 3)).alloc (.cells #[.int .i64 d] 3)):=(uO (uP w) _).alloc _;have c1:((w.alloc (.cells #[.int .i64 x] 3)).alloc (.cells #[.int .i64 d] 3)).cell? ⟨w.heap.size,0,none⟩=some (.int .i64 x):=Z1 _ (ZJ _ _ _ rfl rfl);have c2:((w.alloc (.cells #[.int .i64 x] 3)).alloc (.cells #[.int .i64 d] 3)).cell? ⟨w.heap.size+1,0,none⟩=some (.int .i64 d):=ZJ _ _ _ (by rw[z00]) rfl;have K:=Z_ (M9 (S:=S) 161 #[.pointer (some ⟨w.heap.size,0,none⟩),.pointer (some ⟨w.heap.size+1,0,none⟩)] (enters_of Tryz.func161 (by kernel_rfl) rfl) (Tn x d) v ts _ (h.ext D hS) (ZM hS D) hr hn (BZ _ x d _ _ hx hi hd c1 c2));rw[Du hx]at K;have O:=Z_ D;obtain⟨A,c,rfl⟩:=h.form;clear h hS hr hn hx hd D c1 c2 hi
 go_enter Tryz.func147,Tryz.ntmps147
 go_wp2_with fail;(with_reducible refine K.o.mono ?_);rintro e w1 ⟨v1,rfl,y,z⟩;have I:=Z_ (y.to (S':=New w w1) (uN _ _) (λ k h=>⟨zT O.o.size h.1,h.2⟩));have J:=Z_ (O.o.trans z);clear y z;go_wp2
 all_goals
  go_ret;exact⟨_,rfl,I.o,J.o⟩
theorem Eb{S:Nat->Prop}(v:Value)(ts:List RTerm)(w:World)(h:z06 S w v ts)(hS:∀k,S k->k<w.heap.size)(hr:Yk ts)(hn:ts.length<=1000000000000) :
  Calls Tryz.prog 119 #[v] w λ e w'=>∃v',e=.returned v'/\z06 (New w w') w' v' (Z5 (Y_ (Zt ts)))/\Ext w w':=by
 have HC:=Z_ (Th v ts w h hS hr);have U:=VK (UL ts);have O:=λ x=>XW (UL ts).may x;have HP:=Z_ (λ(W:World) (hW:Ext w W)=>M9 (S:=S) 146 #[] (enters_of Tryz.func146 (by kernel_rfl) rfl) some v ts W (h.ext hW hS) (ZM hS hW) hr hn (EH W));have HD:=Z_ (λ(W:World) (hW:Ext w W)=>N6 (S:=S) v ts (ZL (Zt ts)) W (h.ext hW hS) (ZM hS hW) hr (by omega));have HQ:=Z_ (λ(J:1<=ZL (Zt ts)) (W:World) (hW:Ext w W)=>Pf (S:=S) v ts (ZL (Zt ts)) (degP (Zt ts) (ZL (Zt ts))) W (h.ext hW hS) (ZM hS hW) hr hn ⟨J,U.2⟩ (by have:=O (ZL (Zt ts));unfold Zv;omega));simp only[Jn]at HP;have HI:Hd (Y_ (Zt ts)=if ZL (Zt ts)=0 then Zt ts else YM (Zt ts) (ZL (Zt ts)) (degP (Zt ts) (ZL (Zt ts)))):=Z_ rfl;obtain⟨A,c,rfl⟩:=h.form;clear h hS hr hn O;rw[HI.o];clear HI;obtain⟨p,hp⟩:∃p,p=Zt ts:=⟨_,rfl⟩
 rw[<-hp]at HC HP HD HQ U⊢;clear hp;generalize degP p (ZL p)=d at *;generalize ZL p=x at *
 by_cases J:x=0
 ·subst J;rw[if_pos rfl]
  go_enter Tryz.func119,Tryz.ntmps119
  go_wp2_with fail;(with_reducible refine HC.o.mono ?_);rintro e w1 ⟨rfl,I⟩;have y:=Z_ I;clear I;go_wp2_with fail;(with_reducible refine(HP.o _ y.o).mono ?_);rintro e w2 ⟨v2,rfl,K,z⟩;have aa:=Z_ (K.to (S':=New w w2) (uN _ _) (λ k h=>⟨zT y.o.size h.1,h.2⟩));have D:=Z_ (y.o.trans z);clear K z;go_wp2
  all_goals
   go_ret;exact⟨_,rfl,aa.o,D.o⟩
 ·have q0:(x == 0)=false:=by rw[beq_eq_false_iff_ne];exact J
  rw[if_neg J];have ad:=Z_ (HQ.o (by omega));clear J
  go_enter Tryz.func119,Tryz.ntmps119
  go_wp2_with fail;(with_reducible refine HC.o.mono ?_);rintro e w1 ⟨rfl,I⟩;have y:=Z_ I;clear I;go_wp2_with fail;(with_reducible refine(HD.o _ y.o).mono ?_);rintro e w2 ⟨rfl,z⟩;have D:=Z_ (y.o.trans z);clear z;go_wp2_with fail;(with_reducible refine(ad.o _ D.o).mono ?_);rintro e w3 ⟨v3,rfl,Z,X⟩;have ae:=Z_ (Z.to (S':=New w w3) (uN _ _) (λ k h=>⟨zT D.o.size h.1,h.2⟩));have ac:=Z_ (D.o.trans X);clear Z X;go_wp2
  all_goals
   go_ret;exact⟨_,rfl,ae.o,ac.o⟩
end
section
open Go.RowKit
end
section
open Go.RowKit
theorem MC(x y:Int)(w:World)(hs:-9223372036854775808<=x+y/\x+y<=9223372036854775807) :
  Calls Tryz.prog 174 #[.int .i64 x,.int .i64 y] w λ e w'=>e=.returned (.int .i64 (x+y))/\w'=w:=by
 obtain⟨h1,h2⟩:=hs
 go_enter Tryz.func174,Tryz.ntmps174
 go_wp2
 all_goals
  go_ret;exact⟨rfl,rfl⟩
theorem OV(w:World)(cs:Array Value)(T:TypeId){b i:Nat}(hb:b=w.heap.size):(w.alloc (.cells cs T)).frozen? ⟨b,i,none⟩=false:=by
 subst hb;exact Vt w cs T
theorem Fi(z x y:Int)(bf bm:Nat)(W:World)(hs:-9223372036854775808<=x+y/\x+y<=9223372036854775807)(hle:x+y<=0)
  (cf:W.cell? ⟨bf,0,none⟩=some (.func (.func 174) #[] #[])) :
  Calls Tryz.prog 178 #[.int .i64 z,.int .i64 x,.int .i64 y,.pointer (some ⟨bf,0,none⟩),.pointer (some ⟨bm,0,none⟩)] W λ e w'=>e=.returned (.tuple #[])/\w'=W:=by
 have D:=Z_ (MC x y W hs);generalize x+y=s at *;obtain⟨h1,h2⟩:=hs
 go_enter Tryz.func178,Tryz.ntmps178
 go_wp2_with fail;(with_reducible refine D.o.mono ?_);rintro e w' ⟨rfl,rfl⟩;go_wp2
 all_goals
  go_end0
  exact⟨rfl,rfl⟩
theorem KS(z x y:Int)(bf bm:Nat)(v:Value)(n base:Nat)(xs:List Value)(W:World)(hs:-9223372036854775808<=x+y/\x+y<=9223372036854775807)(hlt:0<x+y)
  (cf:W.cell? ⟨bf,0,none⟩=some (.func (.func 174) #[] #[])) (cm:W.cell? ⟨bm,0,none⟩=some v) (hf:W.frozen? ⟨bm,0,none⟩=false) (hbm:bm<base)
  (hown:W.ownsRow base 56 2 v n xs) (hbase:base<=W.heap.size) (hn:n<=1000000000) :
  Calls Tryz.prog 178 #[.int .i64 z,.int .i64 x,.int .i64 y,.pointer (some ⟨bf,0,none⟩),.pointer (some ⟨bm,0,none⟩)] W λ e w'=>e=.returned (.tuple #[]) /\
   ∃v' w2,w'=w2.setCell ⟨bm,0,none⟩ v'/\w2.ownsRow base 56 2 v' (n+1) (xs ++ [.int .i64 z,.int .i64 (x+y)])/\W.grownBy w2 v.ownBlock:=by
 have HT:=Z_ (MC x y W hs);generalize x+y=s at *;obtain⟨h1,h2⟩:=hs;have Z:=Z_ hown;have U:=Z_ hn;have HB:=Z_ hbase;have K:Hd (bm<W.heap.size/\v.ownBlock≠some bm):=Z_ ⟨Zj cm,λ e=>by have:=(hown.lt bm e).1;omega⟩;have O:=Z_ (zS cm hf);clear hown hn hbase hbm
 go_enter Tryz.func178,Tryz.ntmps178
 go_wp2_with fail;(with_reducible refine HT.o.mono ?_);rintro e w' ⟨rfl,rfl⟩;go_wp2_with (at_builtin;refine XK _ rfl (.tmp 15) (.tmp 19) 52 rfl base 56 (.agg #[.int .i64 0,.int .i64 0]) 2 16 Tryz.underlying52 uu rfl (by decide) v n xs rfl Z.o #[.int .i64 z,.int .i64 s] rfl (PU _ _) rfl U.o (by decide) HB.o ?_;intro v1 w2 hown D _;have q:=Go.Joins.ownsRow_form hown (yC _);obtain⟨bg,cg,rfl⟩:=q;have I:=Z_ hown;have X:=Z_ D;have J:=(D.block bm K.o.1 (λ e=>K.o.2 e.symm));have c1:w2.cell? ⟨bm,0,none⟩=some v:=(World.cell?_of_block (a:=⟨bm,0,none⟩) J).trans O.o.1;have c2:w2.frozen? ⟨bm,0,none⟩=false:=(World.frozen?_of_block (a:=⟨bm,0,none⟩) J).trans O.o.2;clear hown D J)
 all_goals
  go_end0
  exact⟨rfl,_,_,rfl,I.o,X.o⟩
theorem z6d(f:Int->Int->Int)(d:List (Int×Int×Int))(t:Int×Int×Int):z3m f (d ++ [t])=if 0<f t.2.1 t.2.2 then z3m f d ++ [(t.1,f t.2.1 t.2.2)] else z3m f d:=by
 induction d with
 |nil=>
  simp only[yL,z3m]
 |cons x r ih=>
  simp only[zc,z3m,ih]
  split<;>split<;>simp_all
theorem Nf(f:Int->Int->Int)(d:List (Int×Int×Int)):(z3m f d).length<=d.length:=by
 induction d with
 |nil=>simp[z3m]
 |cons x r ih=>
  simp only[z3m]
  split<;>simp<;>omega
theorem JR{a b:Z7}(ha:Z3 a=true)(hb:Z3 b=true):inBounds (ZE a b):=λ x hx=>by
 have K:∀(l:List (Int×Int×Int)) (k:Int),WH k l->∀t∈l,k<t.1/\t.1<=200:=by
  intro l
  induction l with
  |nil=>intro k _ t z;simp at z
  |cons y s ih=>
   intro k hk t z;obtain⟨g1,Z,X⟩:=hk
   rcases zJ.1 z with rfl|z
   ·exact⟨g1,Z⟩
   ·have:=ih _ X t z;omega
 obtain⟨J,O⟩:=Uk ha hb
 have U:∀(l:List (Int×Int×Int)),x∈z3m (· + ·) l->∃t∈l,x=(t.1,t.2.1+t.2.2):=by
  intro l
  induction l with
  |nil=>intro h;simp[z3m]at h
  |cons y s ih=>
   intro h;simp only[z3m]at h
   split at h
   ·rcases zJ.1 h with h|h
    ·exact⟨y,by simp,h⟩
    ·obtain⟨t,I,D⟩:=ih h;exact⟨t,by simp[I],D⟩
   ·obtain⟨t,I,D⟩:=ih h;exact⟨t,by simp[I],D⟩
 obtain⟨t,z,rfl⟩:=U _ hx;have I:=K _ _ J t z;have D:=S6 J z;rw[O]at D;have h8:=X6 ha t.1;have h9:=X6 hb t.1;have h10:t.2.1=ex a t.1:=(congrArg Prod.fst D).symm;have h11:t.2.2=ex b t.1:=(congrArg Prod.snd D).symm;refine⟨⟨?_,?_⟩,?_,?_⟩<;>simp only<;>omega
theorem Ci{S:Nat->Prop}(va vb:Value)(a b:Z7)(w:World)(ha:Pows S w va a)(hb:Pows S w vb b)(hS:∀k,S k->k<w.heap.size)(hma:Z3 a=true)(hmb:Z3 b=true) :
  Calls Tryz.prog 169 #[va,vb,.func (.func 174) #[] #[]] w λ e w'=>∃v',e=.returned v'/\Pows (New w w') w' v' (ZE a b)/\Ext w w':=by
 have hmf:∀(fn:Fn) (first cap:Array Value) (w:World),(Instr.makeFunc fn first cap).run Tryz.prog w=.ok (.func fn first cap) w:=λ _ _ _ _=>rfl;have HA:=Z_ ha;have HB:=Z_ hb;have I:=Z_ hma;have D:=Z_ hmb;obtain⟨aa,ca,rfl⟩:=ha.form;obtain⟨a2,cb,rfl⟩:=hb.form;clear ha hb hma hmb
 go_enter Tryz.func169,Tryz.ntmps169
 go_wp2_with fail;have hK:Ext w ((w.alloc (.cells #[.func (.func 174) #[] #[]] 204)).alloc (.cells #[.slice none 0 0] 52)):=(uO (uP w) _).alloc _;have HK:=Z_ hK;have hz:(w.alloc (.cells #[.func (.func 174) #[] #[]] 204)).heap.size=w.heap.size+1:=z00 _ _
 refine(QE (S:=S) 178 #[.pointer (some ⟨w.heap.size,0,none⟩),.pointer (some ⟨w.heap.size+1,0,none⟩)] (enters_of Tryz.func178 (by kernel_rfl) rfl)
  (λ d W=>W.cell? ⟨w.heap.size,0,none⟩=some (.func (.func 174) #[] #[])/\(∃v,W.cell? ⟨w.heap.size+1,0,none⟩=some v/\W.ownsRow (w.heap.size+2) 56 2 v (z3m (· + ·) d).length (YC (z3m (· + ·) d)))/\W.frozen? ⟨w.heap.size+1,0,none⟩=false/\Ext w W/\w.heap.size+2<=W.heap.size) a b _ ?_ ?_ ?_ _ _
  (HA.o.to (uM hK hS) (λ _ h=>h)) (HB.o.to (uM hK hS) (λ _ h=>h)) ⟨Z1 _ (ZJ _ _ _ rfl rfl),⟨_,ZJ _ _ _ hz.symm rfl,World.ownsRow_nil _ _ _ _⟩,?_,hK,by rw[z00,z00];exact zR _⟩).mono ?_
 ·rintro d t r W hd ⟨J,⟨v,K,y⟩,X,O,h6⟩;have hb:=Q4 HA.o.inBounds HB.o.inBounds t (by rw[hd];simp);obtain⟨h7,h8⟩:=Uk I.o D.o;have h9:=S6 h7 (t:=t) (by rw[hd];simp);rw[h8]at h9;have h10:=X6 I.o t.1;have h11:=X6 D.o t.1;have h12:t.2.1=ex a t.1:=(congrArg Prod.fst h9).symm;have h13:t.2.2=ex b t.1:=(congrArg Prod.snd h9).symm;rw[show(#[Value.int .i64 t.1,.int .i64 t.2.1,.int .i64 t.2.2] ++ #[.pointer (some ⟨w.heap.size,0,none⟩),.pointer (some ⟨w.heap.size+1,0,none⟩)]:Array Value)=#[.int .i64 t.1,.int .i64 t.2.1,.int .i64 t.2.2,.pointer (some ⟨w.heap.size,0,none⟩),.pointer (some ⟨w.heap.size+1,0,none⟩)] from rfl]
  have ac:(z3m (· + ·) d).length<=1000000000:=by
   have k1:=Nf (· + ·) d;have Z:=LV a b;rw[hd,zI]at Z;have k3:=WR I.o;have k4:=WR D.o;omega
  by_cases z:0<t.2.1+t.2.2
  ·refine(KS t.1 t.2.1 t.2.2 _ _ v _ _ _ W (by omega) z J K X (zk _) y h6 ac).mono ?_;rintro e w' ⟨rfl,v',w2,rfl,k1,Z⟩;have U:∀k,v.ownBlock=some k->w.heap.size+2<=k:=λ k hk=>(y.lt k hk).1;have g1:w2.heap[w.heap.size]? = W.heap[w.heap.size]?:=Z.block _ (by omega) (λ e=>by have:=U _ e.symm;omega);have g2:w2.heap[w.heap.size+1]? = W.heap[w.heap.size+1]?:=Z.block _ (by omega) (λ e=>by have:=U _ e.symm;omega)
   refine⟨rfl,ZZ ((World.cell?_of_block (a:=⟨w.heap.size,0,none⟩) g1).trans J) (ab (by omega)),⟨v',YT (u:=v) ?_,?_⟩,Zg ?_,?_,?_⟩
   ·exact(World.cell?_of_block (a:=⟨w.heap.size+1,0,none⟩) g2).trans K
   ·refine ownsRow_setCell_below ?_ (zk _) _;rw[z6d,if_pos z,z63,zI];simpa[YC]using k1
   ·exact(World.frozen?_of_block (a:=⟨w.heap.size+1,0,none⟩) g2).trans X
   ·exact(YU O Z (λ k hk=>by have:=U k hk;omega)).setCell (p:=⟨w.heap.size+1,0,none⟩) (zw _) _
   ·rw[z03];exact zT h6 Z.size
  ·refine(Fi t.1 t.2.1 t.2.2 _ _ W (by omega) (by omega) J).mono ?_;rintro e w' ⟨rfl,rfl⟩;refine⟨rfl,J,⟨v,K,?_⟩,X,O,h6⟩;rw[z6d,if_neg z];exact y
 ·rintro d W ⟨_,_,_,y,_⟩ k hk;exact(uM y hS k hk).trans (uM HK.o hS k hk).symm
 ·rintro d W q ⟨J,⟨v,K,y⟩,X,O,h6⟩;exact⟨by simpa using J,⟨v,by simpa using K,y⟩,by simpa using X,O.drewN q,h6⟩
 ·exact OV _ _ _ hz.symm
 rintro e w3 ⟨rfl,J,⟨v,K,y⟩,X,O,h6⟩;have ad:=Z_ O;have HP:=Z_ (Ut y (JR I.o D.o));have hf:=Go.Joins.ownsRow_forms y;clear J y O hz hK;rcases hf with ⟨rfl,-⟩|⟨bg,cg,rfl⟩
 all_goals
  go_wp2
  all_goals
   refine bodyPost_ret (by simp[results,Tryz.results169,go_sem,YT K];rfl) rfl ?_;exact⟨_,rfl,HP.o.to (uH (λ h=>by have:w.heap.size+2<=w.heap.size+1:=h.1;omega) _) (λ k h=>⟨by have:=h.1;omega,by rw[z03];exact h.2⟩),ad.o.setCell (p:=⟨w.heap.size+1,0,none⟩) (zw _) _⟩
def Wp(a b:Z7):Int:=if Z3 a && Z3 b then(if Z3 (ZE a b) then 0 else 8) else 2
def Un(a b:Z7):Z7:=if Z3 a && Z3 b && Z3 (ZE a b) then ZE a b else []
theorem Lk{S:Nat->Prop}(va vb:Value)(a b:Z7)(w:World)(ha:Pows S w va a)(hb:Pows S w vb b)(hS:∀k,S k->k<w.heap.size) :
  Calls Tryz.prog 160 #[va,vb] w λ e w'=>∃v',e=.returned (.tuple #[v',.int .i64 (Wp a b)])/\Pows (New w w') w' v' (Un a b)/\Ext w w':=by
 have hnot:∀(x:Bool) (w:World),(Op.unary .not (.bool x)).run Tryz.prog w=.ok (.bool (!x)) w:=λ _ _=>rfl;have HA:=Z_ ha;have HB:=Z_ hb;obtain⟨aa,ca,rfl⟩:=ha.form;obtain⟨a2,cb,rfl⟩:=hb.form;clear ha hb;unfold Wp Un
 cases hma:Z3 a with
 |false=>
  have HC:=Z_ (XG _ a w HA.o hS);simp only[hma]at HC
  go_enter Tryz.func160,Tryz.ntmps160
  go_wp2_with fail;(with_reducible refine HC.o.mono ?_);rintro e w1 ⟨rfl,y⟩;have z:=Z_ y;clear y;go_wp2
  all_goals
   go_ret2;exact⟨_,rfl,uB _ _ _,z.o⟩
 |true=>
  have HC:=Z_ (XG _ a w HA.o hS);simp only[hma]at HC;have HD:=Z_ (λ(W:World) (hW:Ext w W)=>XG _ b W (HB.o.ext hW hS) (ZM hS hW))
  cases hmb:Z3 b with
  |false=>
   simp only[hmb]at HD
   go_enter Tryz.func160,Tryz.ntmps160
   go_wp2_with fail;(with_reducible refine HC.o.mono ?_);rintro e w1 ⟨rfl,y⟩;have z:=Z_ y;clear y;go_wp2_with fail;(with_reducible refine(HD.o _ z.o).mono ?_);rintro e w2 ⟨rfl,D⟩;have I:=Z_ (z.o.trans D);clear D;go_wp2
   all_goals
    go_ret2;exact⟨_,rfl,uB _ _ _,I.o⟩
  |true=>
   simp only[hmb]at HD;have HM:=Z_ (λ(W:World) (hW:Ext w W)=>Ci _ _ a b W (HA.o.ext hW hS) (HB.o.ext hW hS) (ZM hS hW) hma hmb);obtain⟨m,hm⟩:∃m,m=ZE a b:=⟨_,rfl⟩
   rw[<-hm]at HM⊢;clear hm;have HE:=Z_ (λ(W:World) (v:Value) (hv:Pows (Z2 W) W v m)=>XG _ m W hv (λ _ h=>h))
   cases hmm:Z3 m with
   |false=>
    simp only[hmm]at HE
    go_enter Tryz.func160,Tryz.ntmps160
    go_wp2_with fail;(with_reducible refine HC.o.mono ?_);rintro e w1 ⟨rfl,y⟩;have z:=Z_ y;clear y;go_wp2_with fail;(with_reducible refine(HD.o _ z.o).mono ?_);rintro e w2 ⟨rfl,D⟩;have I:=Z_ (z.o.trans D);clear D;go_wp2_with fail;(with_reducible refine(HM.o _ I.o).mono ?_);rintro e w3 ⟨v3,rfl,J,O⟩;have X:=Z_ (I.o.trans O);have Z:=Z_ (HE.o w3 v3 (J.to (uN _ _) uK));obtain⟨a3,c3,rfl⟩:=J.form;clear J O;go_wp2_with fail;(with_reducible refine Z.o.mono ?_);rintro e w4 ⟨rfl,K⟩;have U:=Z_ (X.o.trans K);clear K;go_wp2
    all_goals
     go_ret2;exact⟨_,rfl,uB _ _ _,U.o⟩
   |true=>
    simp only[hmm]at HE
    go_enter Tryz.func160,Tryz.ntmps160
    go_wp2_with fail;(with_reducible refine HC.o.mono ?_);rintro e w1 ⟨rfl,y⟩;have z:=Z_ y;clear y;go_wp2_with fail;(with_reducible refine(HD.o _ z.o).mono ?_);rintro e w2 ⟨rfl,D⟩;have I:=Z_ (z.o.trans D);clear D;go_wp2_with fail;(with_reducible refine(HM.o _ I.o).mono ?_);rintro e w3 ⟨v3,rfl,J,O⟩;have X:=Z_ (I.o.trans O);have Z:=Z_ (HE.o w3 v3 (J.to (uN _ _) uK));have ad:=Z_ J;have HX23:=Z_ O;obtain⟨a3,c3,rfl⟩:=J.form;clear J O;go_wp2_with fail;(with_reducible refine Z.o.mono ?_);rintro e w4 ⟨rfl,K⟩;have U:=Z_ (X.o.trans K);have ac:Hd (Pows (New w w4) w4 (.slice a3 m.length c3) m):=Z_ (ad.o.to (New.kept K) (λ k h=>⟨zT I.o.size h.1,zU h.2 K.size⟩));clear K;go_wp2
    all_goals
     go_ret2;exact⟨_,rfl,ac.o,U.o⟩
end
section
open Go.RowKit
theorem VM(n:Int)(w:World)(hn:-9223372036854775808<=n/\n<=9223372036854775807) :
  Calls Tryz.prog 38 #[.int .i64 n] w λ e w'=>∃v',e=.returned v'/\IntV (New w w') w' v' (Z8 n)/\Ext w w':=by
 obtain⟨hn1,hn2⟩:=hn;have aa:=Z_ (uO (uP w) (.cells #[.bool false,.slice none 0 0] 28));have ac:Hd (w.heap.size<(w.alloc (.cells #[.bool false,.slice none 0 0] 28)).heap.size):=Z_ (by rw[z00];omega)
 by_cases h:n<0
 ·obtain⟨x,hx⟩:∃x:Nat,(x:Int) = -n:=⟨(-n).toNat,by omega⟩
  have K:x<18446744073709551616:=by omega
  have q1:n % 18446744073709551616=18446744073709551616-(x:Int):=by omega
  have q2:IntKind.u64.wrap (-IntKind.u64.wrap n)=(x:Int):=by
   rw[IntKind.wrap_u64,IntKind.wrap_u64];omega
  have HS:=Z_ (λ W:World=>Qc x W K);have HL:Hd ((Z4 Z9 x).length<=50000000000000):=Z_ (zT (YZ ZU x 2 (by show x<4294967296^2;omega)) (by decide));have HQ:Hd (n=sg true x):=Z_ (by unfold sg;rw[if_pos rfl];omega);clear hx K
  go_enter Tryz.func38,Tryz.ntmps38
  go_wp2_with fail;(with_reducible refine(HS.o _).mono ?_);rintro e w1 ⟨v1,rfl,I,O⟩;have D:=Z_ O;have X:=Z_ I;obtain⟨a1,c1,rfl⟩:=I.form;clear I O;go_wp2_with fail;(with_reducible refine(VW true _ _ _ X.o uK HL.o).mono ?_);rintro e w2 ⟨v2,rfl,⟨ad,rfl,J⟩,z⟩;have Z:=Z_ z;have U:=Z_ J;obtain⟨a2,n2,rfl⟩:=J.form;have e0:=(D.o.trans z).new_cell (i:=0) rfl;have e1:=(D.o.trans z).new_cell (i:=1) rfl;have f0:=(D.o.trans z).new_free 0;have f1:=(D.o.trans z).new_free 1;have HE:=Z_ (zS e0 e1);rw[<-HQ.o]at U⊢;clear z J;go_wp2;have hd:=λ x y=>YY x y HE.o.1 HE.o.2;refine bodyPost_ret (by simp[results,Tryz.results38,go_sem,(hd _ _).1,(hd _ _).2];rfl) rfl ?_;have hg:=Xi (w0:=w) (b:=w.heap.size) rfl U.o (aa.o.trans D.o) Z.o (zR _) (zU ac.o D.o.size) (.bool (Z8 n).neg) (.slice a2 (Z8 n).mag.length n2);exact⟨_,rfl,hg.1,hg.2⟩
 ·obtain⟨x,hx⟩:∃x:Nat,(x:Int)=n:=⟨n.toNat,by omega⟩
  have K:x<18446744073709551616:=by omega
  have q2:IntKind.u64.wrap n=(x:Int):=by
   rw[IntKind.wrap_u64];omega
  have HS:=Z_ (λ W:World=>Qc x W K);have HL:Hd ((Z4 Z9 x).length<=50000000000000):=Z_ (zT (YZ ZU x 2 (by show x<4294967296^2;omega)) (by decide));have HQ:Hd (n=sg false x):=Z_ (by unfold sg;simp;omega);clear hx K
  go_enter Tryz.func38,Tryz.ntmps38
  go_wp2_with fail;(with_reducible refine(HS.o _).mono ?_);rintro e w1 ⟨v1,rfl,I,O⟩;have D:=Z_ O;have X:=Z_ I;obtain⟨a1,c1,rfl⟩:=I.form;clear I O;go_wp2_with fail;(with_reducible refine(VW false _ _ _ X.o uK HL.o).mono ?_);rintro e w2 ⟨v2,rfl,⟨ad,rfl,J⟩,z⟩;have Z:=Z_ z;have U:=Z_ J;obtain⟨a2,n2,rfl⟩:=J.form;have e0:=(D.o.trans z).new_cell (i:=0) rfl;have e1:=(D.o.trans z).new_cell (i:=1) rfl;have f0:=(D.o.trans z).new_free 0;have f1:=(D.o.trans z).new_free 1;have HE:=Z_ (zS e0 e1);rw[<-HQ.o]at U⊢;clear z J;go_wp2;have hd:=λ x y=>YY x y HE.o.1 HE.o.2;refine bodyPost_ret (by simp[results,Tryz.results38,go_sem,(hd _ _).1,(hd _ _).2];rfl) rfl ?_;have hg:=Xi (w0:=w) (b:=w.heap.size) rfl U.o (aa.o.trans D.o) Z.o (zR _) (zU ac.o D.o.size) (.bool (Z8 n).neg) (.slice a2 (Z8 n).mag.length n2);exact⟨_,rfl,hg.1,hg.2⟩
end
section
open Go.RowKit
theorem GE{z:Int}(h:0<=z/\z<=10000):ZX z<=1:=Xm (by show z.natAbs<4294967296^1;omega)
theorem QF{a b:Int}{j k:Nat}(ha:ZX a<=j)(hb:ZX b<=k):ZX (a*b)<=j+k:=by
 refine Xm ?_;rw[xS,yH];exact xc (WW ha (zR _)) (WW hb (zR _))
theorem ZT{w w':World}{row:Option Nat}{b i:Nat}{v:Value}(hg:w.grownBy w' row)(hc:w.cell? ⟨b,i,none⟩=some v)(hne:some b≠row):w'.cell? ⟨b,i,none⟩=some v :=
 (World.cell?_of_block (a:=⟨b,i,none⟩) (hg.block b (Zj hc) hne)).trans hc
end
section
open Go.RowKit
end
section
open Go.RowKit
section
variable {S S':Nat->Prop} {w w':World} {v:Value} {l:List PZ}
end
end
section
open Go.RowKit
def PI(t:RTerm):Bool:=decide (20<t.c.mag.length) || decide (12<t.m.length)
def WO(n:Int)(ts:List RTerm):Bool:=ts.any PI || decide (n<(ts.length:Int))
theorem Ap{S:Nat->Prop}(v:Value)(ts:List RTerm)(n:Int)(w:World)(h:z06 S w v ts)(_hS:∀k,S k->k<w.heap.size)(hn:-9223372036854775808<=n/\n<=9223372036854775807) :
  Calls Tryz.prog 9 #[v,.int .i64 n] w λ e w'=>e=.returned (.bool (WO n ts))/\Ext w w':=by
 have H:=Z_ h;have hl:=h.len_le;obtain⟨hn1,hn2⟩:=hn;obtain⟨a,cap,rfl⟩:=h.form;clear h
 go_enter Tryz.func9,Tryz.ntmps9
 go_wp2
 go_loopw [5] (λ i wr=>∃k:Nat,k<=ts.length/\i=.int .i64 k/\Ext w wr/\Hd ((ts.take k).any PI=false)) (λ i _=>ts.length-(intOf i).toNat)
 case atStart=>exact⟨0,zL _,rfl,uP _,Z_ rfl⟩
 case round=>
  obtain⟨k,hk,rfl,I,HM⟩:=hrel;have U:=Z_ I
  by_cases aa:k<ts.length
  ·obtain⟨t,O⟩:=ZN aa;obtain⟨b,off,vm,vo,rfl,-,hq1,hm1,hSb,h1,h2,h3,X,Z⟩:=H.o.cellAt O;have HT:Hd (ts.take (k+1)=ts.take k ++ [t]):=Z_ (by rw[zv,O];rfl);have HQ:=Z_ (zP O);have hl1:=X.len_le;have hl2:=Z.len_le;have z:Hd (PI t=(decide (20<t.c.mag.length) || decide (12<t.m.length))):=Z_ rfl;have g1:=uz I h1;have g2:=uz I h2;have g3:=uz I h3;obtain⟨am,cm,rfl⟩:=X.form;obtain⟨ao,co,rfl⟩:=Z.form;generalize t.c.mag.length=x at *;generalize t.m.length=y at *;clear I O h1 h2 h3 X Z
   by_cases K:20<x
   ·have J:Hd (WO n ts=true):=Z_ (by
     unfold WO;rw[xX.2 ⟨t,HQ.o,by rw[z.o,decide_eq_true K];rfl⟩]
     rfl)
    go_wp2
    all_goals
     go_ret;exact⟨by rw[J.o];rfl,U.o⟩
   ·by_cases D:12<y
    ·have J:Hd (WO n ts=true):=Z_ (by
      unfold WO;rw[xX.2 ⟨t,HQ.o,by rw[z.o,decide_eq_true D,uW]⟩]
      rfl)
     go_wp2
     all_goals
      go_ret;exact⟨by rw[J.o];rfl,U.o⟩
    ·go_wp2
     go_roundw
     case rel=>exact⟨k+1,by omega,by go_num,U.o,Z_ (by rw[HT.o,wC,HM.o];simp[z.o];omega)⟩
     case measure=>simp only[intOf];omega
  ·obtain rfl:k=ts.length:=by omega
   have J:Hd (WO n ts=decide (n<(ts.length:Int))):=Z_ (by
    have:=HM.o;rw[yW]at this;unfold WO
    rw[this,vF])
   clear I;go_wp2
   all_goals
    go_ret;exact⟨by rw[J.o];rfl,U.o⟩
end
section
open Go.RowKit
section
variable {S:Nat->Prop} {w w1 w2:World} {o:Value} {e:TypeId} {size n:Nat} {xs:List Value}
end
end
section
open Go.RowKit
theorem EI{p:PZ}{k:Nat}(h:bndZ k p)(hk:k<=40000000000000):Yk (Z5 p):=λ t ht=>by
 obtain⟨u,hu,rfl⟩:=zG.1 ht;show(Z8 u.1).mag.length<=_;rw[z54];exact zT (Xm (h u hu)) hk
theorem DG{ts:List RTerm}{k:Nat}(hok:okT ts)(h:∀t∈ts,t.c.mag.length<=k):bndZ k (Zt ts):=λ u hu=>by
 unfold Zt at hu
 split at hu
 ·obtain⟨t,ht,rfl⟩:=zG.1 hu;exact WW (Ws (hok t ht)) (h t ht)
 ·simp at hu
theorem NG{p:PZ}{k:Nat}(h:bndZ k p)(v e:Int):bndZ k (YM p v e):=λ u hu=>by
 obtain⟨t,ht,-,rfl⟩:=Uc hu;exact h t ht
theorem B5{p:PZ}{k:Nat}(h:bndZ k p):bndZ k (Y_ p):=by
 unfold Y_
 split
 ·exact h
 ·exact NG h _ _
theorem Aj{p:PZ}{k:Nat}(h:bndZ k p):∀t∈Z5 p,t.c.mag.length<=k:=λ t ht=>by
 obtain⟨u,hu,rfl⟩:=zG.1 ht;show(Z8 u.1).mag.length<=_;rw[z54];exact Xm (h u hu)
theorem z5w(p:PZ):(Z5 p).length=p.length:=by unfold Z5;rw[zE]
theorem FR(ts:List RTerm):(Zt ts).length<=ts.length:=by
 unfold Zt
 split
 ·unfold toP;rw[zE];exact zR _
 ·simp
end
end Go.Proofs.YtlbohjnfkhemlaaGreat
