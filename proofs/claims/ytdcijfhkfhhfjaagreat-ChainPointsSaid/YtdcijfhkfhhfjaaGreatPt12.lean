/- Chain, plain: by a meter of little fuel all that a rest makes is small. What the statement on divisions holds against each other: four meters, polynomials of both sides, that lie apart. Chain, plain: the rests of layer 16's statements within bounds; one meter or another. Chain: what the rest of a chain is, plainly: the same with cofactors and without, reduced, an identity. Chain: an identity's rounds over what a rest tells, within bounds; a rest of a rest. The value of a rest at a point. Plain. A polynomial that is read, with the form's own bound: no slice of limbs passes it. The arguments of layer 16's statements, with the form's own bound on lists. From the form's own reading of an argument to quotients in a row. Layer 16: what the law of ChainPoints stands on. -/
import Derived.SizedLaws
import Derived.Test.YtdcijfhkfhhfjaaGreatPt11
set_option maxRecDepth 100000
set_option maxHeartbeats 16000000
namespace Go.Proofs.YtdcijfhkfhhfjaaGreat
section
structure InR (g N E:Nat) (s:MSt) (r:PZ):Prop where
 ok:s.Ok
 fu:s.fu ≤ (N:Int)
 can:canP r
 nr:nrm r ≤ 2 ^ ((g + 1) * s.st.toNat + g)
 len:r.length ≤ 100000
 ex:exB ((E:Int) * (s.st + 1)) r
structure InQ (g E j:Nat) (s:MSt) (q:PZ):Prop where
 hj:(j:Int) ≤ s.st
 can:canP q
 nq:nrm q ≤ j * 2 ^ ((g + 1) * s.st.toNat)
 len:q.length ≤ 100000
 ex:exB ((E:Int) * (s.st + 1)) q
structure Lim (g N E e B:Nat):Prop where
 cut:(g + 1) * N + e < 1472
 steps:N ≤ 2 ^ e
 small:N ≤ 100
 exps:E * (N + 1) ≤ 5000
 lim:(g + 1) * N + g + e < 32 * B
 hB:B ≤ 200
 he:e ≤ 100
 hg:g ≤ 640
theorem z9y (k:Nat):B32 ^ k = 2 ^ (32 * k):=by rw [Nat.pow_mul,show (2:Nat) ^ 32 = B32 by decide]
theorem zco {a b:Nat} (h:a < b):2 ^ a < 2 ^ b:=Nat.pow_lt_pow_right (by decide) h
theorem zil {a b:Nat} (h:a ≤ b):2 ^ a ≤ 2 ^ b:=Nat.pow_le_pow_right (by decide) h
theorem zul {p:PZ} {k n e:Nat} (hc:canP p) (h:nrm p ≤ 2 ^ e) (he:e < 32 * k) (hn:p.length ≤ n):Fit k n p:=zcn hc (by rw [z9y]; exact Nat.lt_of_le_of_lt h (zco he)) hn
section
variable {g N E e B j:Nat} {s s':MSt} {p q r:PZ}
theorem InR.st (h:InR g N E s r):0 ≤ s.st ∧ s.st ≤ (N:Int):=⟨h.ok.s0,Int.le_trans h.ok.s1 h.fu⟩
theorem zz7 (_L:Lim g N E e B) (h:s.st.toNat ≤ N):(g + 1) * s.st.toNat ≤ (g + 1) * N:=Nat.mul_le_mul_left _ h
theorem InR.fit (L:Lim g N E e B) (h:InR g N E s r):Fit B 100000 r:=zcn h.can (by
 rw [z9y]
 refine Nat.lt_of_le_of_lt h.nr (zco ?_)
 have h1:=h.st
 have h2:=zz7 L (s:=s) (by omega)
 have h3:=L.lim
 omega) h.len
theorem InQ.two (L:Lim g N E e B) (h:InQ g E j s q) (hN:s.st ≤ (N:Int)):nrm q ≤ 2 ^ ((g + 1) * s.st.toNat + e):=by
 rw [Nat.add_comm ((g + 1) * s.st.toNat) e,Nat.pow_add]
 refine Nat.le_trans h.nq (Nat.mul_le_mul_right _ (Nat.le_trans ?_ L.steps))
 have:=h.hj
 omega
theorem InQ.fit (L:Lim g N E e B) (h:InQ g E j s q) (h0:0 ≤ s.st) (hN:s.st ≤ (N:Int)):Fit B 100000 q:=zcn h.can (by
 rw [z9y]
 refine Nat.lt_of_le_of_lt (h.two L hN) (zco ?_)
 have h2:=zz7 L (s:=s) (by omega)
 have h3:=L.lim
 omega) h.len
theorem zjz (_a:Nat) (st:Int) (h:0 ≤ st):(g + 1) * (st + 1).toNat = (g + 1) * st.toNat + (g + 1):=by
 rw [show (st + 1).toNat = st.toNat + 1 by omega,Nat.mul_succ]
theorem zxt {keep:Bool} {G h:PZ} {v d:Int} {x:PZ × PZ} {b:Nat} (L:Lim g N E e B) (hr:InR g N E s r) (hq:InQ g E j s q) (cg:canP G) (ch:canP h) (ng:nrm G ≤ 2 ^ g) (nh:nrm h ≤ 2 ^ g) (eg:exB (E:Int) G) (eh:exB (E:Int) h) (hv:1 ≤ v ∧ v ≤ 200) (hd:0 ≤ d)
  (h1:(z1e (some b) s).1 = 0) (hs:z4m keep G h v d q r = some x) (h2:(z10 (some b) (z1e (some b) s).2 x.2).1 = 0) (h3:(z10 (some b) (z1e (some b) s).2 x.1).1 = 0) :
  InR g N E (z1e (some b) s).2 x.2 ∧ InQ g E (j + 1) (z1e (some b) s).2 x.1 ∧ (z1e (some b) s).2.st = s.st + 1 ∧ (z1e (some b) s).2.fu = s.fu:=by
 have hlt:s.st < s.fu:=by
  rcases Int.lt_or_le s.st s.fu with h | h
  ·exact h
  ·exfalso
   simp only [z1e,MSt.step] at h1
   rw [if_neg (by omega)] at h1
   simp at h1
 have e1:z1e (some b) s = (0,{ s with st:=s.st + 1 }):=by simp only [z1e,MSt.step]; rw [if_pos hlt]
 rw [e1] at h2 h3 ⊢
 have hst:=hr.st
 have hfu:=hr.fu
 have ok2:MSt.Ok { s with st:=s.st + 1 }:=⟨hr.ok.f0,hr.ok.f1,hr.ok.l0,hr.ok.l1,hr.ok.t0,hr.ok.t1,hr.ok.p0,hr.ok.p1,by show 0 ≤ s.st + 1; omega,by show s.st + 1 ≤ s.fu; omega,hr.ok.c0,hr.ok.c1⟩
 have hex:(E:Int) * (s.st + 1) + E ≤ 10000:=by
  have h4:(E:Int) * (s.st + 1) ≤ E * ((N:Int) + 1):=Int.mul_le_mul_of_nonneg_left (by omega) (by omega)
  have h5:=L.exps
  have h6:((E * (N + 1):Nat):Int) = E * ((N:Int) + 1):=by rw [Int.natCast_mul,Int.natCast_add]; rfl
  have h7:E ≤ E * (N + 1):=Nat.le_mul_of_pos_right E (by omega)
  omega
 have hnn:0 ≤ (E:Int) * (s.st + 1):=Int.mul_nonneg (by omega) (by omega)
 obtain ⟨x',hx',ex1,ex2⟩:=zt3 keep cg ch hq.can hr.can eg eh hq.ex hr.ex (by omega) hnn hex hv hd
 obtain rfl:x = x':=Option.some.inj (hs.symm.trans hx')
 have eex:(E:Int) * (s.st + 1) + E = E * ((s.st + 1) + 1):=by rw [Int.mul_add E (s.st + 1) 1,Int.mul_one]
 rw [eex] at ex1 ex2
 obtain ⟨c1,c2⟩:=zpg cg ch hq.can hr.can hv hd hs
 obtain ⟨n1,n2⟩:=zuk cg ch hq.can hr.can hv hd hs ng nh hq.nq hr.nr
 have l1:=(z75 h3).2
 have l2:=(z75 h2).2
 have t1:=hr.ok.t1
 have t2:({ s with st:=s.st + 1 }:MSt).te = s.te:=rfl
 rw [t2] at l1 l2
 refine ⟨⟨ok2,hfu,c2,?_,by omega,ex2⟩,⟨by show ((j + 1:Nat):Int) ≤ s.st + 1; have:=hq.hj; omega,c1,?_,by omega,ex1⟩,rfl,rfl⟩
 ·show nrm x.2 ≤ 2 ^ ((g + 1) * (s.st + 1).toNat + g)
  rw [zjz 0 s.st hst.1]
  refine Nat.le_trans n2 (Nat.le_of_eq ?_)
  rw [Nat.mul_assoc,← Nat.pow_add,Nat.mul_comm 2,← Nat.pow_succ]
  congr 1
  omega
 ·show nrm x.1 ≤ (j + 1) * 2 ^ ((g + 1) * (s.st + 1).toNat)
  rw [zjz 0 s.st hst.1]
  refine Nat.le_trans n1 ?_
  have k1:2 ^ g * (j * 2 ^ ((g + 1) * s.st.toNat)) + 2 ^ ((g + 1) * s.st.toNat + g) = (j + 1) * 2 ^ ((g + 1) * s.st.toNat + g):=by
   rw [Nat.add_mul j 1,Nat.one_mul,Nat.pow_add 2 ((g + 1) * s.st.toNat) g,Nat.mul_left_comm,Nat.mul_comm (2 ^ g)]
  rw [k1]
  exact Nat.mul_le_mul_left _ (zil (by omega))
theorem zz8 {keep:Bool} {G:PZ} {v:Int} {b:Nat} (L:Lim g N E e B) (cg:canP G) (ng:nrm G ≤ 2 ^ g) (eg:exB (E:Int) G) (hv:1 ≤ v ∧ v ≤ 200) (hd:0 ≤ degP G v) :
  ∀ (k:Nat) (s:MSt) (q r:PZ) (n:Nat),InR g N E s r → InQ g E n s q →
   z5i (some b) keep G (z17 G v) v (degP G v) B 100000 k s q r ∧ ((runD (some b) keep G (z17 G v) v (degP G v) k s q r n).e = 0 →
    InR g N E (runD (some b) keep G (z17 G v) v (degP G v) k s q r n).s (runD (some b) keep G (z17 G v) v (degP G v) k s q r n).r ∧
    InQ g E (runD (some b) keep G (z17 G v) v (degP G v) k s q r n).n (runD (some b) keep G (z17 G v) v (degP G v) k s q r n).s (runD (some b) keep G (z17 G v) v (degP G v) k s q r n).q ∧
    (runD (some b) keep G (z17 G v) v (degP G v) k s q r n).s.st + n = s.st + (runD (some b) keep G (z17 G v) v (degP G v) k s q r n).n ∧
    (runD (some b) keep G (z17 G v) v (degP G v) k s q r n).s.fu = s.fu):=by
 have ch:canP (z17 G v):=z2h cg v _
 have nh:nrm (z17 G v) ≤ 2 ^ g:=Nat.le_trans (zf7 _ _ _) ng
 have eh:exB (E:Int) (z17 G v):=eg.coef (by omega) v _
 intro k
 induction k with
 | zero => intro s q r n hr hq; exact ⟨⟨hq.fit L hr.st.1 hr.st.2,hr.fit L⟩,fun _ => ⟨hr,hq,rfl,rfl⟩⟩
 | succ k ih =>
  intro s q r n hr hq
  have step:∀ x,(z1e (some b) s).1 = 0 → z4m keep G (z17 G v) v (degP G v) q r = some x → (z10 (some b) (z1e (some b) s).2 x.2).1 = 0 → (z10 (some b) (z1e (some b) s).2 x.1).1 = 0 → _:=fun x h1 h2 h3 h4 => zxt (e:=e) (B:=B) L hr hq cg ch ng nh eg eh hv hd h1 h2 h3 h4
  refine ⟨⟨hq.fit L hr.st.1 hr.st.2,hr.fit L,fun _ _ h1 x h2 h3 h4 => ?_⟩,?_⟩
  ·obtain ⟨i1,i2,-,-⟩:=step x h1 h2 h3 h4
   exact (ih _ _ _ (n + 1) i1 i2).1
  ·rw [runD]
   split
   ·intro _
    exact ⟨hr,hq,rfl,rfl⟩
   split
   ·intro h; rename_i h1; exact absurd h h1
   rename_i h1
   split
   ·intro h; exact absurd h (by show ¬ (8:Int) = 0; decide)
   rename_i x hx
   split
   ·intro h; rename_i h2; exact absurd h h2
   rename_i h2
   split
   ·intro h; rename_i h3; exact absurd h h3
   rename_i h3
   intro h
   obtain ⟨i1,i2,i3,i4⟩:=step x (Decidable.not_not.1 h1) hx (Decidable.not_not.1 h2) (Decidable.not_not.1 h3)
   obtain ⟨a1,a2,a3,a4⟩:=(ih _ _ _ (n + 1) i1 i2).2 h
   exact ⟨a1,a2,by omega,a4.trans i4⟩
theorem zz9 {w:Bool} {G:PZ} {v:Int} {b:Nat} (L:Lim g N E e B) (cg:canP G) (ng:nrm G ≤ 2 ^ g) (eg:exB (E:Int) G) (hv:1 ≤ v ∧ v ≤ 200) (hd:0 ≤ degP G v) (hr:InR g N E s r) :
  z5i (some b) w G (z17 G v) v (degP G v) B 100000 ((degP r v).toNat + 1) s [] r ∧ ((divD (some b) w s r G v).e = 0 → InR g N E (divD (some b) w s r G v).s (divD (some b) w s r G v).r ∧ InQ g E (divD (some b) w s r G v).n (divD (some b) w s r G v).s (divD (some b) w s r G v).q ∧ (divD (some b) w s r G v).s.st = s.st + (divD (some b) w s r G v).n ∧ (divD (some b) w s r G v).s.fu = s.fu):=by
 have h0:InQ g E 0 s []:=⟨hr.ok.s0,z2u,Nat.zero_le _,by simp,zid _⟩
 obtain ⟨h1,h2⟩:=zz8 (keep:=w) (b:=b) L cg ng eg hv hd ((degP r v).toNat + 1) s [] r 0 hr h0
 refine ⟨h1,fun he => ?_⟩
 obtain ⟨a1,a2,a3,a4⟩:=h2 he
 refine ⟨a1,a2,?_,a4⟩
 have a5:(divD (some b) w s r G v).s.st + ((0:Nat):Int) = s.st + (divD (some b) w s r G v).n:=a3
 omega
structure InC (g E e:Nat) (st:Int) (c:PZ):Prop where
 can:canP c
 nc:nrm c ≤ 2 ^ ((g + 1) * st.toNat + e)
 len:c.length ≤ 100000
 ex:exB ((E:Int) * (st + 1)) c
theorem InC.later {st st':Int} {c:PZ} (h:InC g E e st c) (h1:st ≤ st'):InC g E e st' c :=
 ⟨h.can,Nat.le_trans h.nc (zil (by have:=Nat.mul_le_mul_left (g + 1) (show st.toNat ≤ st'.toNat by omega); omega)),h.len,h.ex.le (Int.mul_le_mul_of_nonneg_left (by omega) (by omega))⟩
theorem zqq (st:Int):InC g E e st []:=⟨z2u,Nat.zero_le _,by simp,zid _⟩
theorem InQ.c (L:Lim g N E e B) (h:InQ g E j s q) (hN:s.st ≤ (N:Int)):InC g E e s.st q:=⟨h.can,h.two L hN,h.len,h.ex⟩
structure InP (g E n:Nat) (P:PZ):Prop where
 can:canP P
 nP:nrm P ≤ 2 ^ (g * n)
 len:P.length ≤ 100000
 ex:exB ((E:Int) * n) P
theorem zum {c P:PZ} {n:Nat} {st:Int} (L:Lim g N E e B) (hc:InC g E e st c) (hP:InP g E n P) (h0:0 ≤ st) (hN:st + n ≤ (N:Int)) :
  CofStep c P ∧ (((z0g c P).getD []).length ≤ 100000 → InC g E e (st + n) ((z0g c P).getD [])):=by
 have h1:(g + 1) * st.toNat + g * n + n = (g + 1) * (st + n).toNat:=by
  rw [show (st + n).toNat = st.toNat + n by omega,Nat.mul_add,Nat.add_mul g 1 n,Nat.one_mul]
  omega
 have h2:(g + 1) * (st + n).toNat ≤ (g + 1) * N:=Nat.mul_le_mul_left _ (by omega)
 have h3:=L.cut
 have hex:(E:Int) * (st + 1) + E * n = E * ((st + n) + 1):=by rw [← Int.mul_add]; congr 1; omega
 have hex2:(E:Int) * ((st + n) + 1) ≤ 10000:=by
  have h4:(E:Int) * ((st + n) + 1) ≤ E * ((N:Int) + 1):=Int.mul_le_mul_of_nonneg_left (by omega) (by omega)
  have h5:=L.exps
  have h6:((E * (N + 1):Nat):Int) = E * ((N:Int) + 1):=by rw [Int.natCast_mul,Int.natCast_add]; rfl
  omega
 obtain ⟨c',hc',cc,ec,-,-⟩:=hc.ex.times hP.ex hc.can hP.can (by rw [hex]; exact hex2)
 rw [hex] at ec
 have f1:Fit (((g + 1) * st.toNat + e) / 32 + 1) 100000 c:=zcn hc.can (by rw [z9y]; exact Nat.lt_of_le_of_lt hc.nc (zco (by omega))) hc.len
 have f2:Fit ((g * n) / 32 + 1) 100000 P:=zcn hP.can (by rw [z9y]; exact Nat.lt_of_le_of_lt hP.nP (zco (by omega))) hP.len
 have hn:=z65 hc.can.may hP.can.may hc'
 rw [hc',Option.getD_some]
 refine ⟨⟨⟨_,_,_,_,f1,f2,by omega,by omega,by omega,by decide,by decide,by decide⟩,by rw [hc',Option.getD_some]⟩,fun hl => ⟨cc,?_,hl,ec⟩⟩
 refine Nat.le_trans hn (Nat.le_trans (Nat.mul_le_mul hc.nc hP.nP) ?_)
 rw [← Nat.pow_add]
 exact zil (by omega)
theorem zqr {P:PZ} {n m b:Nat} {st:Int} (L:Lim g N E e B) (hP:InP g E n P) (h0:0 ≤ st) (hN:st + n ≤ (N:Int)) :
  ∀ (t:Nat) (s:MSt) (cs:List PZ),t ≤ m → cs.length = m → s.Ok → (∀ i,i < m - t → InC g E e (st + n) (cs.getD i [])) → (∀ i,m - t ≤ i → i < m → InC g E e st (cs.getD i [])) →
   zaf (some b) P m t s cs ∧ ((cofD (some b) P m t s cs).1 = 0 → (cofD (some b) P m t s cs).2.1 = s ∧ ∀ i,i < m → InC g E e (st + n) ((cofD (some b) P m t s cs).2.2.getD i [])):=by
 intro t
 induction t with
 | zero =>
  intro s cs _ _ _ h1 _
  exact ⟨trivial,fun _ => ⟨rfl,fun i hi => h1 i (by omega)⟩⟩
 | succ t ih =>
  intro s cs ht hl ok h1 h2
  obtain ⟨i,hi⟩:∃ i,i = m - (t + 1):=⟨_,rfl⟩
  rw [zaf,cofD,← hi]
  have hc:=h2 i (by omega) (by omega)
  obtain ⟨c1,c2⟩:=zum L hc hP h0 hN
  generalize (z0g (cs.getD i []) P).getD [] = c at c2 ⊢
  have hrec:(z10 (some b) s c).1 = 0 → zaf (some b) P m t (z10 (some b) s c).2 (cs.set i c) ∧ ((cofD (some b) P m t (z10 (some b) s c).2 (cs.set i c)).1 = 0 → (cofD (some b) P m t (z10 (some b) s c).2 (cs.set i c)).2.1 = (z10 (some b) s c).2 ∧ ∀ k,k < m → InC g E e (st + n) ((cofD (some b) P m t (z10 (some b) s c).2 (cs.set i c)).2.2.getD k [])):=fun hk => by
   have hb:=(z75 hk).2
   have t1:=ok.t1
   have hcc:=c2 (by omega)
   rw [z7u hk]
   have gs:∀ k,(cs.set i c).getD k [] = if i = k then (if k < m then c else []) else cs.getD k []:=fun k => by
    simp only [List.getD_eq_getElem?_getD,List.getElem?_set,hl]
    split
    ·rename_i e; subst e; split <;> rfl
    ·rfl
   refine ih s (cs.set i c) (by omega) (by rw [List.length_set]; exact hl) ok (fun k hk1 => ?_) (fun k hk1 hk2 => ?_)
   ·rw [gs]
    split
    ·rw [if_pos (by omega)]; exact hcc
    ·exact h1 k (by omega)
   ·rw [gs,if_neg (by omega)]
    exact h2 k (by omega) hk2
  refine ⟨⟨c1,fun hk => (hrec hk).1⟩,?_⟩
  split
  ·intro h; rename_i h3; exact absurd h h3
  ·rename_i h3
   intro h
   have hk:=Decidable.not_not.1 h3
   have h4:=(hrec hk).2 h
   rw [z7u hk] at h4 ⊢
   exact h4
structure ChP (g E A T:Nat) (p:PZ):Prop where
 fit:Fit A T p
 np:nrm p ≤ 2 ^ g
 ex:exB (E:Int) p
 lead:0 < z0t p
theorem ChP.range {A T:Nat} (h:ChP g E A T p):1 ≤ z0t p ∧ z0t p ≤ 200:=⟨h.lead,(z66 h.fit.can).2⟩
theorem z9f {cs:List PZ} {i:Nat} {c:PZ} (hi:i < cs.length) (k:Nat):(cs.set i c).getD k [] = if k = i then c else cs.getD k []:=by
 simp only [List.getD_eq_getElem?_getD,List.getElem?_set]
 by_cases e:i = k
 ·subst e
  rw [if_pos rfl,if_pos rfl,if_pos hi]
  rfl
 ·rw [if_neg e,if_neg (fun h => e h.symm)]
theorem zve {A T n:Nat} (L:Lim g N E e B) (h:ChP g E A T p) (hn:n ≤ N):∃ P,powN (z1w p) n = some P ∧ canP P ∧ nrm P ≤ 2 ^ (g * n) ∧ exB ((E:Int) * n) P:=by
 have ei:exB (E:Int) (z1w p):=by
  unfold z1w
  split
  ·exact h.ex
  ·exact h.ex.coef (by omega) _ _
 have hEn:(n:Int) * E ≤ 10000:=by
  have h1:E * n ≤ E * (N + 1):=Nat.mul_le_mul_left _ (by omega)
  have h2:=L.exps
  have h3:((E * n:Nat):Int) = (n:Int) * E:=by rw [Int.natCast_mul,Int.mul_comm]
  omega
 obtain ⟨P,hP,cP,-,eP⟩:=zig h.fit.init.can ei (by omega) n hEn
 rw [Int.mul_comm] at eP
 refine ⟨P,hP,cP,?_,eP⟩
 rw [Nat.pow_mul]
 exact zui h.fit.init.can (Nat.le_trans (zug p) h.np) n P hP
theorem zqs {w:Bool} {ls:List PZ} {A T b:Nat} (L:Lim g N E e B) (hls:∀ p ∈ ls,ChP g E A T p) (hA:A < 24) (hT:1 ≤ T) (hT2:T ≤ 1000000) (hTN:T ^ N ≤ 1000000000000) :
  ∀ (k:Nat) (s:MSt) (r:PZ) (ns:List Int) (cs:List PZ),k ≤ ls.length → cs.length = ls.length → InR g N E s r → (∀ i,i < ls.length → InC g E e s.st (cs.getD i [])) →
   z31 (some b) w ls k s r cs ∧ ((z4n (some b) w ls k s r ns cs).1 = 0 → InR g N E (z4n (some b) w ls k s r ns cs).2.1 (z4n (some b) w ls k s r ns cs).2.2.1 ∧ ∀ i,i < ls.length → InC g E e (z4n (some b) w ls k s r ns cs).2.1.st ((z4n (some b) w ls k s r ns cs).2.2.2.2.getD i [])):=by
 intro k
 induction k with
 | zero => intro s r ns cs _ _ hr hc; exact ⟨trivial,fun _ => ⟨hr,hc⟩⟩
 | succ k ih =>
  intro s r ns cs hk hl hr hc
  have hp:=z6h hls (k:=k) (by omega)
  rw [z31,z4n]
  obtain ⟨p,hpe⟩:∃ p,p = ls.getD k []:=⟨_,rfl⟩
  rw [← hpe] at hp ⊢
  have hpos:=za7 hp.fit.can hp.lead
  obtain ⟨d1,d2⟩:=zz9 (w:=w) (b:=b) L hp.fit.can hp.np hp.ex hp.range (by omega) hr
  have hB:=L.hB
  have RS:RedStep (some b) w p r s:=⟨⟨A,T,B,100000,hp.fit,hA,by omega,hT,hT2,by omega,d1⟩,hp.range,by omega⟩
  have hDK:divK (some b) w ls k s r = divD (some b) w s r p (z0t p):=by rw [hpe]
  rw [hDK]
  generalize divD (some b) w s r p (z0t p) = D at d2 ⊢
  -- the round
  have hround:(z22 (some b) w p ls.length k D cs).1 = 0 → D.e = 0 ∧ (z22 (some b) w p ls.length k D cs).2.2.length = ls.length ∧ InR g N E (z22 (some b) w p ls.length k D cs).2.1 D.r ∧ ∀ i,i < ls.length → InC g E e (z22 (some b) w p ls.length k D cs).2.1.st ((z22 (some b) w p ls.length k D cs).2.2.getD i []):=by
   intro h0
   have hlen:=zlu h0
   rw [hl] at hlen
   refine ⟨?_,hlen,?_⟩
   ·unfold z22 at h0
    by_cases he:D.e ≠ 0
    ·rw [if_pos he] at h0; exact h0
    ·exact Decidable.not_not.1 he
   unfold z22 at h0 ⊢
   by_cases he:D.e ≠ 0
   ·rw [if_pos he] at h0; exact absurd h0 he
   rw [if_neg he] at h0 ⊢
   obtain ⟨i1,i2,i3,i4⟩:=d2 (Decidable.not_not.1 he)
   have hst:=i1.st
   have hq:=i2.c L hst.2
   by_cases hn:D.n = 0 ∨ w = false
   ·rw [if_pos hn]
    refine ⟨i1,fun i hi => ?_⟩
    rw [z9f (by omega)]
    split
    ·exact hq
    ·exact (hc i hi).later (by show s.st ≤ D.s.st; omega)
   rw [if_neg hn] at h0 ⊢
   obtain ⟨P,hP,cP,nP,eP⟩:=zve (n:=D.n) L hp (by have:=hr.ok.s0; omega)
   rw [hP,Option.getD_some] at h0 ⊢
   by_cases hm:(z10 (some b) D.s P).1 ≠ 0
   ·rw [if_pos hm] at h0; exact absurd h0 hm
   rw [if_neg hm] at h0 ⊢
   have hm0:=Decidable.not_not.1 hm
   have lP:=(z75 hm0).2
   have t1:=i1.ok.t1
   rw [z7u hm0] at h0 ⊢
   obtain ⟨-,c2⟩:=zqr (b:=b) (m:=ls.length) (P:=P) (n:=D.n) (st:=s.st) L ⟨cP,nP,by omega,eP⟩ hr.ok.s0 (by omega) (ls.length - (k + 1)) D.s (cs.set k D.q) (by omega) (by rw [List.length_set]; exact hl) i1.ok (fun i hi => by
    rw [z9f (by omega)]
    split
    ·exact hq.later (by omega)
    ·exact (hc i (by omega)).later (by omega)) (fun i hi1 hi2 => by
    rw [z9f (by omega),if_neg (by omega)]
    exact hc i hi2)
   obtain ⟨c3,c4⟩:=c2 h0
   rw [c3]
   exact ⟨i1,fun i hi => (c4 i hi).later (by omega)⟩
  have hRF:D.e = 0 → D.n ≠ 0 → w = true → RoundFit (some b) p ls.length k D cs:=fun he hn hw => by
   obtain ⟨i1,i2,i3,i4⟩:=d2 he
   have hst:=i1.st
   have hq:=i2.c L hst.2
   have hnN:D.n ≤ N:=by have:=hr.ok.s0; omega
   obtain ⟨P,hP,cP,nP,eP⟩:=zve (n:=D.n) L hp hnN
   refine ⟨by have:=L.small; omega,by rw [hP]; rfl,⟨A,T,hp.fit,hA,hT,by omega,Nat.le_trans (Nat.pow_le_pow_right hT hnN) hTN⟩,?_⟩
   rw [hP,Option.getD_some]
   intro hm0
   have lP:=(z75 hm0).2
   have t1:=i1.ok.t1
   rw [z7u hm0]
   exact (zqr (b:=b) (m:=ls.length) (P:=P) (n:=D.n) (st:=s.st) L ⟨cP,nP,by omega,eP⟩ hr.ok.s0 (by omega) (ls.length - (k + 1)) D.s (cs.set k D.q) (by omega) (by rw [List.length_set]; exact hl) i1.ok (fun i hi => by
    rw [z9f (by omega)]
    split
    ·exact hq.later (by omega)
    ·exact (hc i (by omega)).later (by omega)) (fun i hi1 hi2 => by
    rw [z9f (by omega),if_neg (by omega)]
    exact hc i hi2)).1
  refine ⟨⟨RS,hRF,fun h0 => ?_⟩,?_⟩
  ·obtain ⟨-,a2,a3,a4⟩:=hround h0
   exact (ih _ _ (ns.set k (D.n:Int)) _ (by omega) a2 a3 a4).1
  ·split
   ·intro h; rename_i h1; exact absurd h h1
   ·rename_i h1
    intro h
    obtain ⟨-,a2,a3,a4⟩:=hround (Decidable.not_not.1 h1)
    exact (ih _ _ _ _ (by omega) a2 a3 a4).2 h
end
end
section
open Go.RowKit
section
variable {w W W':World} {o r:Option Nat} {s:MSt} {v:Value} {p:PZ} {N n0 n4:Nat}
end
section
variable {w W:World} {o:Option Nat} {s:MSt} {vf vg:Value} {F G:PZ} {x:Int} {n4:Nat}
end
end
section
section
variable {o r:Option Nat}
end
theorem zf8 {l:List PZ}:∀ {c:Int},0 ≤ c → mayZ c l = true → ∀ p ∈ l,0 < z0t p:=by
 induction l with
 | nil => intro c _ _ p hp; simp at hp
 | cons q r ih =>
  intro c hc h p hp
  rw [mayZ] at h
  split at h
  ·rename_i h1
   rcases List.mem_cons.1 hp with rfl | hp
   ·omega
   ·exact ih (by omega) h p hp
  ·cases h
theorem zun:Lim 99 12 4 4 50:=⟨by decide,by decide,by decide,by decide,by decide,by decide,by decide,by decide⟩
theorem zxu {p:PZ} (h:Fit 3 6 p):nrm p ≤ 2 ^ 99:=by
 have h1:=zxs h
 rw [z9y] at h1
 exact Nat.le_trans h1 (by decide)
theorem in16 {fu b c d:Int} {F:PZ} (hm:z46 fu b c d) (hfu:fu ≤ 12) (fF:Fit 3 6 F) (eF:exB 4 F):InR 99 12 4 (MSt.new fu b c d) F :=
 ⟨zq7 hm,by show fu ≤ ((12:Nat):Int); exact hfu,fF.can,zxu fF,Nat.le_trans fF.2.2 (by decide),eF⟩
theorem zza {fu b c d:Int} {F:PZ} {ls:List PZ} {k:Nat} (w:Bool) (hm:z46 fu b c d) (hfu:fu ≤ 12) (fF:Fit 3 6 F) (eF:exB 4 F) (hls:∀ p ∈ ls,Fit 3 6 p ∧ exB 4 p) (hz:mayZ 0 ls = true) :
  z31 (some k) w ls ls.length (MSt.new fu b c d) F (List.replicate ls.length []) ∧ ((z4n (some k) w ls ls.length (MSt.new fu b c d) F (List.replicate ls.length 0) (List.replicate ls.length [])).1 = 0 →
   Fit 50 100000 (z4n (some k) w ls ls.length (MSt.new fu b c d) F (List.replicate ls.length 0) (List.replicate ls.length [])).2.2.1 ∧
   ∀ i,i < ls.length → Fit 50 100000 ((z4n (some k) w ls ls.length (MSt.new fu b c d) F (List.replicate ls.length 0) (List.replicate ls.length [])).2.2.2.2.getD i [])):=by
 have hch:∀ p ∈ ls,ChP 99 4 3 6 p:=fun p hp => ⟨(hls p hp).1,zxu (hls p hp).1,(hls p hp).2,zf8 (Int.le_refl _) hz p hp⟩
 obtain ⟨h1,h2⟩:=zqs (w:=w) (b:=k) zun hch (by decide) (by decide) (by decide) (by decide) ls.length (MSt.new fu b c d) F (List.replicate ls.length 0) (List.replicate ls.length []) (Nat.le_refl _) (by simp) (in16 hm hfu fF eF) (fun i hi => by
  rw [List.getD_eq_getElem?_getD,List.getElem?_replicate]
  split <;> exact zqq _)
 refine ⟨h1,fun h0 => ?_⟩
 obtain ⟨i1,i2⟩:=h2 h0
 refine ⟨i1.fit zun,fun i hi => ?_⟩
 have hc:=i2 i hi
 have hst:=i1.st
 refine zul hc.can hc.nc ?_ hc.len
 have h3:(99 + 1) * (z4n (some k) w ls ls.length (MSt.new fu b c d) F (List.replicate ls.length 0) (List.replicate ls.length [])).2.1.st.toNat ≤ (99 + 1) * 12:=Nat.mul_le_mul_left _ (by omega)
 omega
end
section
open Go.RowKit
structure Chain16 (ls:List PZ):Prop where
 can:∀ p ∈ ls,canP p
 pos:∀ p ∈ ls,0 < z0t p
 up:∀ i j,i < j → j < ls.length → z0t (ls.getD i []) < z0t (ls.getD j [])
theorem zxv {l:List PZ}:∀ {c:Int},mayZ c l = true → (∀ j,j < l.length → c < z0t (l.getD j [])) ∧ ∀ i j,i < j → j < l.length → z0t (l.getD i []) < z0t (l.getD j []):=by
 induction l with
 | nil => intro c _; exact ⟨fun j hj => absurd hj (Nat.not_lt_zero _),fun i j _ hj => absurd hj (Nat.not_lt_zero _)⟩
 | cons p r ih =>
  intro c h
  rw [mayZ] at h
  split at h
  ·rename_i h1
   obtain ⟨a1,a2⟩:=ih h
   refine ⟨fun j hj => ?_,fun i j hij hj => ?_⟩
   ·cases j with
    | zero => exact h1
    | succ j =>
     have:=a1 j (by simpa using hj)
     rw [List.getD_cons_succ]
     omega
   ·cases j with
    | zero => omega
    | succ j =>
     rw [List.getD_cons_succ]
     cases i with
     | zero => exact a1 j (by simpa using hj)
     | succ i =>
      rw [List.getD_cons_succ]
      exact a2 i j (by omega) (by simpa using hj)
  ·cases h
theorem zuo {ls:List PZ} (hc:∀ p ∈ ls,canP p) (h:mayZ 0 ls = true):Chain16 ls:=⟨hc,zf8 (Int.le_refl _) h,(zxv h).2⟩
theorem Chain16.range {ls:List PZ} (h:Chain16 ls) {k:Nat} (hk:k < ls.length):canP (ls.getD k []) ∧ (1 ≤ z0t (ls.getD k []) ∧ z0t (ls.getD k []) ≤ 200) ∧ 1 ≤ degP (ls.getD k []) (z0t (ls.getD k [])):=by
 have h1:=z6h h.can hk
 have h2:=z6h h.pos hk
 exact ⟨h1,⟨h2,(z66 h1).2⟩,by have:=za7 h1 h2; omega⟩
def zup (ls:List PZ) (ns:List Int):Nat → PZ
 | 0 => [(1,[])]
 | k + 1 => mulL (zup ls ns k) (hpow (z1w (ls.getD k [])) (ns.getD k 0).toNat)
end
section
open Go.RowKit
theorem zzj {ls:List PZ} (hls:∀ p ∈ ls,Fit 3 6 p ∧ exB 4 p) (hz:mayZ 0 ls = true):∀ p ∈ ls,ChP 99 4 3 6 p:=fun p hp => ⟨(hls p hp).1,zxu (hls p hp).1,(hls p hp).2,zf8 (Int.le_refl _) hz p hp⟩
theorem zqt (n i:Nat):(List.replicate n ([]:PZ)).getD i [] = []:=by
 rw [List.getD_eq_getElem?_getD,List.getElem?_replicate]
 split <;> rfl
end
section
section
variable {pts:List (RInt × RInt)}
theorem zhd {p q c:PZ} (hp:canP p) (hq:canP q) (h:z0g p q = some c):evQ (gM pts) c = evQ (gM pts) p * evQ (gM pts) q:=by
 obtain ⟨h1,rfl⟩:=z3w hp.may hq.may h
 rw [zqe (z7r h1),zxn pts (z73 hp.may) (z73 hq.may)]
theorem zxw (g:Mono → Rat) (p:PZ):evQ g (negP p) = - evQ g p:=by
 have h0:evQ g (negP p) = (-1) * evQ g p:=by
  unfold negP
  induction p with
  | nil => simp [evQ,Rat.mul_zero]
  | cons t r ih =>
   simp only [List.map_cons,evQ,ih,Rat.mul_add,Rat.intCast_neg,Rat.neg_mul,Rat.one_mul]
 rw [h0,Rat.neg_mul,Rat.one_mul]
theorem zuq {p:PZ} (h:z0k p) (g:Mono → Rat):evQ g (z1t p) = evQ g p:=zqe (z7r h) g
theorem zxx {keep:Bool} {g q r:PZ} {v:Int} {x:PZ × PZ} (hg:canP g) (hr:canP r) (hv:1 ≤ v ∧ v ≤ 200) (hd:0 ≤ degP g v) (hs:z4m keep g (z17 g v) v (degP g v) q r = some x) (eg:evQ (gM pts) g = 0) :
  canP x.2 ∧ evQ (gM pts) x.2 = evQ (gM pts) (z17 g v) * evQ (gM pts) r:=by
 have hh:canP (z17 g v):=z2h hg v _
 obtain ⟨t,l,m,ht,hl,hm,hx,-,-⟩:=z62 hs
 have ct:canP t:=zc8 hr hv hd ht
 have cl:canP l:=z35 ct hg hl
 have cm:canP m:=z35 hh hr hm
 rw [hx]
 have hap:z0k (m ++ negP l):=z3j cm.may (z6g cl).may
 refine ⟨z3n hap,?_⟩
 rw [zuq hap,z9v,zxw,zhd ct hg hl,zhd hh hr hm,eg,Rat.mul_zero,Rat.neg_zero,Rat.add_zero]
theorem zzb {o:Option Nat} {keep:Bool} {g:PZ} {v:Int} (hg:canP g) (hv:1 ≤ v ∧ v ≤ 200) (hd1:1 ≤ degP g v) (eg:evQ (gM pts) g = 0) :
  ∀ (k:Nat) (s:MSt) (q r:PZ) (n:Nat),canP r → (runD o keep g (z17 g v) v (degP g v) k s q r n).e = 0 →
   canP (runD o keep g (z17 g v) v (degP g v) k s q r n).r ∧ ∃ c:Rat,(evQ (gM pts) (z17 g v) ≠ 0 → c ≠ 0) ∧ evQ (gM pts) (runD o keep g (z17 g v) v (degP g v) k s q r n).r = c * evQ (gM pts) r:=by
 intro k
 induction k with
 | zero =>
  intro s q r n hr _
  exact ⟨hr,1,fun _ => by decide,(Rat.one_mul _).symm⟩
 | succ k ih =>
  intro s q r n hr
  by_cases h1:r = [] ∨ degP r v < degP g v
  ·intro _
   simp only [runD,if_pos h1]
   exact ⟨hr,1,fun _ => by decide,(Rat.one_mul _).symm⟩
  by_cases h2:(z1e o s).1 ≠ 0
  ·intro he
   simp only [runD,if_neg h1,if_pos h2] at he
   exact absurd he h2
  cases hs:z4m keep g (z17 g v) v (degP g v) q r with
  | none =>
   intro he
   simp only [runD,if_neg h1,if_neg h2,hs] at he
   exact absurd he (by decide)
  | some x =>
   by_cases h3:(z10 o (z1e o s).2 x.2).1 ≠ 0
   ·intro he
    simp only [runD,if_neg h1,if_neg h2,hs,if_pos h3] at he
    exact absurd he h3
   by_cases h4:(z10 o (z1e o s).2 x.1).1 ≠ 0
   ·intro he
    simp only [runD,if_neg h1,if_neg h2,hs,if_neg h3,if_pos h4] at he
    exact absurd he h4
   simp only [runD,if_neg h1,if_neg h2,hs,if_neg h3,if_neg h4]
   intro he
   obtain ⟨c2,e2⟩:=zxx (pts:=pts) hg hr hv (by omega) hs eg
   obtain ⟨c3,c,hc,e3⟩:=ih _ x.1 x.2 _ c2 he
   refine ⟨c3,c * evQ (gM pts) (z17 g v),fun h0 e => ?_,?_⟩
   ·rcases Rat.mul_eq_zero.1 e with e | e
    ·exact hc h0 e
    ·exact h0 e
   ·rw [e3,e2,Rat.mul_assoc]
theorem zzc {o:Option Nat} {ls:List PZ} (H:Chain16 ls) (h0:∀ p ∈ ls,evQ (gM pts) p = 0) :
  ∀ (k:Nat) (s:MSt) (r:PZ) (ns:List Int),k ≤ ls.length → canP r → (redD o ls k s r ns).1 = 0 →
   canP (redD o ls k s r ns).2.2.1 ∧ ∃ c:Rat,((∀ p ∈ ls,evQ (gM pts) (z1w p) ≠ 0) → c ≠ 0) ∧ evQ (gM pts) (redD o ls k s r ns).2.2.1 = c * evQ (gM pts) r:=by
 intro k
 induction k with
 | zero =>
  intro s r ns _ hr _
  exact ⟨hr,1,fun _ => by decide,(Rat.one_mul _).symm⟩
 | succ k ih =>
  intro s r ns hk hr he
  by_cases h1:(divD o false s r (ls.getD k []) (z0t (ls.getD k []))).e ≠ 0
  ·simp only [redD,if_pos h1] at he
   exact absurd he h1
  ·simp only [redD,if_neg h1] at he ⊢
   obtain ⟨hp,hv,hd⟩:=H.range (k:=k) (by omega)
   have hmem:ls.getD k [] ∈ ls:=by
    rw [List.getD_eq_getElem?_getD,List.getElem?_eq_getElem (by omega),Option.getD_some]
    exact List.getElem_mem _
   obtain ⟨c1,a,ha,e1⟩:=zzb (pts:=pts) (o:=o) (keep:=false) hp hv hd (h0 _ hmem) _ s [] r 0 hr (Decidable.not_not.1 h1)
   obtain ⟨c2,c,hc,e2⟩:=ih _ _ _ (by omega) (show canP (divD o false s r (ls.getD k []) (z0t (ls.getD k []))).r from c1) he
   refine ⟨c2,c * a,fun hi e => ?_,?_⟩
   ·rcases Rat.mul_eq_zero.1 e with e | e
    ·exact hc hi e
    ·refine ha ?_ e
     have h2:=hi _ hmem
     unfold z1w at h2
     rwa [if_neg (by omega)] at h2
   ·rw [e2]
    show c * evQ (gM pts) (runD o false _ _ _ _ _ s [] r 0).r = _
    rw [e1,Rat.mul_assoc]
end
theorem zzk {fu b c d:Int} {F:PZ} {ls:List PZ} {k:Nat} (hm:z46 fu b c d) (hfu:fu ≤ 12) (fF:Fit 3 6 F) (eF:exB 4 F) (hls:∀ p ∈ ls,Fit 3 6 p ∧ exB 4 p) (hz:mayZ 0 ls = true)
  (h0:(redD (some k) ls ls.length (MSt.new fu b c d) F (List.replicate ls.length 0)).1 = 0) :
  Fit 50 100000 (redD (some k) ls ls.length (MSt.new fu b c d) F (List.replicate ls.length 0)).2.2.1 ∧ exB 52 (redD (some k) ls ls.length (MSt.new fu b c d) F (List.replicate ls.length 0)).2.2.1:=by
 rw [zq0 ls.length _ _ _ (List.replicate ls.length [])] at h0 ⊢
 have hch:∀ p ∈ ls,ChP 99 4 3 6 p:=zzj hls hz
 obtain ⟨h1,h2⟩:=zqs (w:=false) (b:=k) zun hch (by decide) (by decide) (by decide) (by decide) ls.length (MSt.new fu b c d) F (List.replicate ls.length 0) (List.replicate ls.length []) (Nat.le_refl _) (by simp) (in16 hm hfu fF eF) (fun i hi => by
  rw [zqt]
  exact zqq _)
 obtain ⟨i1,i2⟩:=h2 h0
 refine ⟨i1.fit zun,i1.ex.le ?_⟩
 have hst:=i1.st
 have e:((4:Nat):Int) = 4:=rfl
 rw [e]
 omega
structure OkAt (pts:List (RInt × RInt)) (p:PZ):Prop where
 z:(sgE pts p).1 = 0
 e:(sgE pts p).2 = 0
 i:(sgE pts (z1w p)).1 ≠ 0
 ie:(sgE pts (z1w p)).2 = 0
theorem zax {pts:List (RInt × RInt)} {p:PZ} (h:(sgE pts p).2 = 0):(sgE pts p).1 = 0 ↔ evQ (gM pts) p = 0:=by
 unfold sgE at h ⊢
 split
 ·show z1l _ = 0 ↔ _
  unfold z1l
  rw [z6q,Rat.num_eq_zero]
 ·rename_i h1
  rw [if_neg h1] at h
  cases h
theorem zur {pts:List (RInt × RInt)} {s:MSt} {F:PZ} {ls:List PZ} {k:Nat} (H:Chain16 ls) (cF:canP F) (h0:(redD (some k) ls ls.length s F (List.replicate ls.length 0)).1 = 0) (ho:∀ p ∈ ls,OkAt pts p)
  (h1:(sgE pts F).2 = 0) (h2:(sgE pts (redD (some k) ls ls.length s F (List.replicate ls.length 0)).2.2.1).2 = 0) :
  (sgE pts F).1 = 0 ↔ (sgE pts (redD (some k) ls ls.length s F (List.replicate ls.length 0)).2.2.1).1 = 0:=by
 rw [zax h1,zax h2]
 obtain ⟨-,c,hc,e⟩:=zzc (pts:=pts) H (fun p hp => (zax (ho p hp).e).1 (ho p hp).z) ls.length s F (List.replicate ls.length 0) (Nat.le_refl _) cF h0
 have hc':=hc (fun p hp e => (ho p hp).i ((zax (ho p hp).ie).2 e))
 rw [e]
 constructor
 ·intro h
  rw [h,Rat.mul_zero]
 ·intro h
  rcases Rat.mul_eq_zero.1 h with h | h
  ·exact absurd h hc'
  ·exact h
end
section
open Go.RowKit Go.Deep Go.ChangeShapes Go.WideShapes
section
variable {H:Type} {enc:TypeId × Value → H} {w:World} {base:Nat} {spare:Nat → Bool} {held:Bool}
def zm7 (t:TypeId) (d:DataW H):Prop:=∀ k ∈ d.weights Tryz.prog t,k ≤ reachBytes
theorem zcp {e:TypeId} {ds:List (DataW H)} {d:DataW H} (hd:d ∈ ds) {k:Nat} (hk:k ∈ d.weights Tryz.prog e):k ∈ DataW.weightsAll Tryz.prog e ds:=by
 induction ds with
 | nil => simp at hd
 | cons y r ih =>
  rw [DataW.weightsAll,List.mem_append]
  rcases List.mem_cons.1 hd with rfl | hd
  ·exact .inl hk
  ·exact .inr (ih hd)
theorem zak {t e:TypeId} {fuel sz:Nat} {v:Value} {x:DataW H × List MemPlace} (ht:Tryz.prog.underlying t = some (.slice e)) (hsz:Tryz.prog.cellsOf e = sz) (hpos:0 < sz)
  (h:DataW.trod enc Tryz.prog w base spare held fuel t [v] = some x) (hL:zm7 t x.1) :
  ∃ (n b off fuel':Nat),z3a (· < w.heap.size) v n b off ∧ n * Tryz.prog.bytesOf e ≤ reachBytes ∧ ∀ j,j < n → ∃ (cs:List Value) (y:DataW H × List MemPlace),cs.length = sz ∧ (∀ i,i < sz → w.cell? ⟨b,off + j * sz + i,none⟩ = cs[i]?) ∧ DataW.trod enc Tryz.prog w base spare held fuel' e cs = some y ∧ zm7 e y.1:=by
 rcases open_slice ht h with ⟨hcs,_⟩ | ⟨a,len,cap,m,fuel',D,Pl,hcs,hb,hl,hm,hmm,hxx,hx⟩
 ·obtain rfl:v = .slice none 0 0:=by simpa using hcs
  exact ⟨0,0,0,0,⟨none,0,rfl,Nat.le_refl _,Nat.zero_le _,fun h => absurd h (by omega),fun h => absurd h (by omega)⟩,by simp,fun j hj => absurd hj (by omega)⟩
 ·obtain rfl:v = .slice (some a) len cap:=by simpa using hcs
  rw [hsz] at hx
  have hlm:len ≤ m:=by rw [hmm]; split <;> omega
  have hwt:x.1.weights Tryz.prog t = (((List.range len).map D).length + ((List.range (m - len)).map fun j => D (len + j)).length) * Tryz.prog.bytesOf e :: (DataW.weightsAll Tryz.prog e ((List.range len).map D) ++ DataW.weightsAll Tryz.prog e ((List.range (m - len)).map fun j => D (len + j))):=by
   rw [hxx]
   simp only [DataW.weights,ht]
  have hbytes:len * Tryz.prog.bytesOf e ≤ reachBytes:=by
   have h1:=hL _ (by rw [hwt]; exact List.mem_cons_self)
   refine Nat.le_trans (Nat.mul_le_mul_right _ ?_) h1
   rw [List.length_map,List.length_range]
   omega
  have hD:∀ j,j < len → zm7 e (D j):=fun j hj k hk => hL k (by
   rw [hwt]
   refine List.mem_cons_of_mem _ (List.mem_append_left _ (zcp (d:=D j) ?_ hk))
   exact List.mem_map.2 ⟨j,List.mem_range.2 hj,rfl⟩)
  have key:∀ j,j < len → ∃ (cs:List Value) (y:DataW H × List MemPlace),cs.length = sz ∧ (∀ i,i < sz → w.cell? ((a.add (j * sz)).add i) = cs[i]?) ∧ DataW.trod enc Tryz.prog w base spare held fuel' e cs = some y ∧ zm7 e y.1:=by
   intro j hj
   obtain ⟨cs,h1,h2⟩:=hx j (by omega)
   obtain ⟨_,h3,h4⟩:=World.cells?_some h1
   exact ⟨cs,_,h3,h4,h2,hD j hj⟩
  by_cases h0:0 < len
  ·have hsp:a.spot = none:=by
    obtain ⟨cs,_,h3,h4,_⟩:=key 0 h0
    have h5:=h4 0 hpos
    have e0:(a.add (0 * sz)).add 0 = a:=by simp [Addr.add]
    rw [e0,List.getElem?_eq_getElem (by omega)] at h5
    unfold World.cell? at h5
    split at h5
    ·cases hs:a.spot with
     | none => rfl
     | some z => simp [hs] at h5
    ·exact absurd h5 (by simp)
   obtain ⟨b,off,spot⟩:=a
   obtain rfl:spot = none:=hsp
   have add_eq:∀ j i,((⟨b,off,none⟩:Addr).add (j * sz)).add i = ⟨b,off + j * sz + i,none⟩:=by
    intro j i
    unfold Addr.add
    by_cases h1:j * sz = 0 <;> by_cases h2:i = 0 <;> simp [h1,h2]
   refine ⟨len,b,off,fuel',⟨_,cap,rfl,hl,hm,fun _ => rfl,fun _ => ?_⟩,hbytes,fun j hj => ?_⟩
   ·obtain ⟨cs,_,h3,h4,_⟩:=key 0 h0
    have h5:=h4 0 hpos
    rw [add_eq,List.getElem?_eq_getElem (by omega)] at h5
    exact z0s h5
   ·obtain ⟨cs,y,h3,h4,h5,h6⟩:=key j hj
    exact ⟨cs,y,h3,fun i hi => by rw [← add_eq]; exact h4 i hi,h5,h6⟩
  ·exact ⟨len,0,0,fuel',⟨_,cap,rfl,hl,hm,fun h => absurd h h0,fun h => absurd h h0⟩,hbytes,fun j hj => absurd hj (by omega)⟩
end
end
section
open Go.RowKit Go.Deep Go.ChangeShapes Go.WideShapes Go.ChangeAt Go.Joins
section
variable {H:Type} {enc:TypeId × Value → H} {w:World} {base:Nat} {spare:Nat → Bool} {held:Bool}
theorem Tryz.bytes_poly:Tryz.prog.bytesOf 23 = 24:=by kernel_rfl
theorem Tryz.cells_poly1:Tryz.prog.cellsOf 23 = 1:=by kernel_rfl
theorem zal {fuel:Nat} {v:Value} {x:DataW H × List MemPlace} (h:DataW.trod enc Tryz.prog w base spare held fuel 24 [v] = some x) (hL:zm7 24 x.1):∃ ls,z1r (· < w.heap.size) w v ls ∧ ls.length ≤ 5864062014800:=by
 obtain ⟨n,b,off,f',hs,hn,-⟩:=zak Tryz.underlying24 Tryz.cells_poly1 (by omega) h hL
 obtain ⟨ls,hz⟩:=zm1 h
 refine ⟨ls,hz,?_⟩
 obtain ⟨a,cap,e1,-⟩:=hs
 obtain ⟨a',cap',e2⟩:=hz.form
 have e:n = ls.length:=by
  rw [e1] at e2
  simpa using congrArg (fun v => match v with | Value.slice _ n _ => n | _ => 0) e2
 rw [Tryz.bytes_poly] at hn
 rw [← e]
 unfold reachBytes at hn
 omega
end
section
variable {H:Type} {enc:TypeId × Value → H} {W:World} {base b0:Nat} {sp:Nat → Bool} {held:Bool}
end
end
section
open Go.RowKit Go.Deep Go.ChangeShapes Go.WideShapes
theorem zqu {α:Type} {l:List α} (h:l.length = 4):∃ a b c d,l = [a,b,c,d]:=by
 match l,h with
 | [a,b,c,d],_ => exact ⟨a,b,c,d,rfl⟩
section
variable {H:Type} {enc:TypeId × Value → H} {w:World} {base:Nat} {spare:Nat → Bool} {held:Bool}
theorem Tryz.cells_rat:Tryz.prog.cellsOf 32 = 4:=by kernel_rfl
theorem zk0 {fuel:Nat} {c0 c1:Value} {x:DataW H × List MemPlace} (h:DataW.trod enc Tryz.prog w base spare held fuel 30 [c0,c1] = some x):∃ r:RInt,c0 = .bool r.neg ∧ U32s (· < w.heap.size) w c1 r.mag:=by
 obtain ⟨fuel',hf⟩:∃ f,f = fuel:=⟨_,rfl⟩
 subst hf
 obtain ⟨z0,z1,m',_,_,k0,k1⟩:=trod_struct2 Tryz.underlying30 h
 simp [Tryz.cells_bool,Tryz.cells_su32] at k0 k1
 obtain ⟨ng,e0,_⟩:=DataW.trod_bool Tryz.underlying4 k0
 simp at e0
 subst e0
 obtain ⟨zs,hzs⟩:=zh7 k1
 exact ⟨⟨ng,zs⟩,rfl,hzs⟩
theorem zqv {fuel:Nat} {v:Value} {x:DataW H × List MemPlace} (h:DataW.trod enc Tryz.prog w base spare held fuel 25 [v] = some x):∃ l,Rats (· < w.heap.size) w v l:=by
 obtain ⟨n,b,off,f',hs,hx⟩:=z3o Tryz.underlying25 Tryz.cells_rat (by omega) h
 obtain ⟨ts,hl,hp⟩:=z4t (p:=fun j (r:RInt × RInt) => ∃ vn vd,w.cell? ⟨b,off + j * 4,none⟩ = some (.bool r.1.neg) ∧
  w.cell? ⟨b,off + j * 4 + 1,none⟩ = some vn ∧ w.cell? ⟨b,off + j * 4 + 2,none⟩ = some (.bool r.2.neg) ∧ w.cell? ⟨b,off + j * 4 + 3,none⟩ = some vd ∧ U32s (· < w.heap.size) w vn r.1.mag ∧ U32s (· < w.heap.size) w vd r.2.mag) (n:=n) (fun j hj => by
  obtain ⟨cs,y,h1,h2,h3⟩:=hx j hj
  obtain ⟨y0,y1,m,_,_,g0,g1⟩:=trod_struct2 Tryz.underlying32 h3
  obtain ⟨c0,c1,c2,c3,rfl⟩:=zqu h1
  simp [Tryz.cells_int] at g0 g1
  obtain ⟨r0,rfl,hr0⟩:=zk0 g0
  obtain ⟨r1,rfl,hr1⟩:=zk0 g1
  exact ⟨(r0,r1),c1,c3,h2 0 (by omega),h2 1 (by omega),h2 2 (by omega),h2 3 (by omega),hr0,hr1⟩)
 subst hl
 exact ⟨ts,b,off,hs,hp⟩
end
end
section
end
end Go.Proofs.YtdcijfhkfhhfjaaGreat
