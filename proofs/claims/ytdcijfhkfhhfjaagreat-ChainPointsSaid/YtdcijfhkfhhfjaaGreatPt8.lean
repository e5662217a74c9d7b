/- Polynomials as sums: linear functionals on lists of terms, products, and that a canonical list is told by them. Plain. Degrees, initials, classes and derivatives of products and sums. Plain. Lists that are the same so far. Are two polynomials the same data? The program's calls on canonical polynomials: one form of contract for all. A polynomial is built again out of its coefficients. Plain. The document: a variable's power, coefficient, initial, tail. Pseudo-division, plain: its steps, by a meter or without one; that they end. Pseudo-division, plain: what its steps keep: the identity, exponents, sizes. The document's calls on canonical polynomials within bounds: one form of contract for all. A meter, or none, as one value: what its methods do; polynomials that lie apart from it. A polynomial times a term; a variable's power. The program's division: the head, a power, the other sign, the term of a step. The program's division: a step's term, and products with the head. The program's division: what is told behind a step. The program's division: one step. Pseudo-division, plain: what a whole division answers: the identity, degrees, how many steps; with a meter as without one. Pseudo-division of a product by one of its factors, plain: no rest; as many steps as the other factor has terms, at most. Pseudo-division, plain: powers, sizes of what is told, and how the statements' equations come about. The program's division: its beginning, all its steps, and what is told. -/
import Derived.Test.YtdcijfhkfhhfjaaGreatProg
import Derived.Test.YtdcijfhkfhhfjaaGreatPt7
set_option maxRecDepth 100000
set_option maxHeartbeats 16000000
namespace Go.Proofs.YtdcijfhkfhhfjaaGreat
section
/-! Monomials without a greatest exponent -/
def z1x (last:Int):Mono → Bool
 | [] => true
 | x :: r => decide (last < x.1 ∧ x.1 ≤ 200 ∧ 1 ≤ x.2) && z1x x.1 r
def okM (m:Mono):Bool:=z1x 0 m
theorem zli {l:Int} {m:Mono} (h:z0a l m = true):z1x l m = true:=by
 induction m generalizing l with
 | nil => rfl
 | cons x r ih =>
  simp only [z0a,z1x,Bool.and_eq_true,decide_eq_true_eq] at h ⊢
  exact ⟨by omega,ih h.2⟩
theorem zjg {m:Mono} (h:mayM m = true):okM m = true:=zli h
theorem zyf {l:Int} {m:Mono} (h:z1x l m = true) (he:∀ u,ex m u ≤ 10000):z0a l m = true:=by
 induction m generalizing l with
 | nil => rfl
 | cons x r ih =>
  simp only [z0a,z1x,Bool.and_eq_true,decide_eq_true_eq] at h ⊢
  have h0:∀ u,u ≤ x.1 → ex r u = 0:=by
   have:∀ (r:Mono) (k:Int),z1x k r = true → ∀ u,u ≤ k → ex r u = 0:=by
    intro r
    induction r with
    | nil => intro k _ u _; rfl
    | cons y s ih =>
     intro k hk u hu
     simp only [z1x,Bool.and_eq_true,decide_eq_true_eq] at hk
     rw [ex,if_neg (by omega)]
     exact ih _ hk.2 u (by omega)
   exact fun u hu => this r x.1 h.2 u hu
  have h1:=he x.1
  rw [ex,if_pos rfl] at h1
  refine ⟨by omega,ih h.2 (fun u => ?_)⟩
  by_cases hu:x.1 = u
  ·rw [h0 u (by omega)]; omega
  ·have:=he u
   rwa [ex,if_neg hu] at this
theorem zc3 {l:Int} {m:Mono} (h:z1x l m = true) {u:Int} (hu:u ≤ l):ex m u = 0:=by
 induction m generalizing l with
 | nil => rfl
 | cons y s ih =>
  simp only [z1x,Bool.and_eq_true,decide_eq_true_eq] at h
  rw [ex,if_neg (by omega)]
  exact ih h.2 (by omega)
theorem z92 {l:Int} {m:Mono} (h:z1x l m = true) (u:Int):0 ≤ ex m u:=by
 induction m generalizing l with
 | nil => simp [ex]
 | cons y s ih =>
  simp only [z1x,Bool.and_eq_true,decide_eq_true_eq] at h
  rw [ex]
  split
  ·omega
  ·exact ih h.2
theorem zv1 {l:Int} {a b:Mono} (ha:z1x l a = true) (hb:z1x l b = true) (h:∀ v,ex a v = ex b v):a = b:=by
 induction a generalizing b l with
 | nil =>
  cases b with
  | nil => rfl
  | cons y b =>
   have:=h y.1
   simp only [z1x,Bool.and_eq_true,decide_eq_true_eq] at hb
   simp [ex] at this
   omega
 | cons x a ih =>
  cases b with
  | nil =>
   have:=h x.1
   simp only [z1x,Bool.and_eq_true,decide_eq_true_eq] at ha
   simp [ex] at this
   omega
  | cons y b =>
   simp only [z1x,Bool.and_eq_true,decide_eq_true_eq] at ha hb
   have h1:=h x.1
   have h2:=h y.1
   have e:x.1 = y.1:=by
    rcases Int.lt_trichotomy x.1 y.1 with g | g | g
    ·rw [ex,if_pos rfl,ex,if_neg (by omega),zc3 hb.2 (by omega)] at h1
     omega
    ·exact g
    ·rw [ex,if_neg (by omega),zc3 ha.2 (by omega),ex,if_pos rfl] at h2
     omega
   have e2:x.2 = y.2:=by
    rw [ex,if_pos rfl,ex,if_pos e.symm] at h1
    exact h1
   have:x = y:=Prod.ext e e2
   subst this
   congr 1
   refine ih ha.2 hb.2 (fun v => ?_)
   have:=h v
   rw [ex,ex] at this
   split at this
   ·rename_i hv
    rw [zc3 ha.2 (by omega),zc3 hb.2 (by omega)]
   ·exact this
theorem zjh {last:Int} {a b:Mono} (ha:z1x last a = true) (hb:z1x last b = true):ris last (both a b) ∧ (∀ u,lk (both a b) u = (ex a u,ex b u)) ∧ ∀ t ∈ both a b,1 ≤ t.2.1 + t.2.2:=by
 generalize hn:a.length + b.length = n
 induction n using Nat.strongRecOn generalizing a b last with
 | ind n ih =>
 cases a with
 | nil =>
  cases b with
  | nil => rw [z8m]; exact ⟨trivial,fun u => rfl,fun t ht => by simp at ht⟩
  | cons y b =>
   simp only [z1x,Bool.and_eq_true,decide_eq_true_eq] at hb
   simp only [List.length_cons,List.length_nil] at hn
   obtain ⟨h1,h2,h3⟩:=ih (0 + b.length) (by omega) (a:=[]) (b:=b) (last:=y.1) rfl hb.2 (by simp)
   rw [z79]
   refine ⟨⟨hb.1.1,hb.1.2.1,h1⟩,fun u => ?_,fun t ht => ?_⟩
   ·rw [lk,h2,ex]
    simp only [ex]
    split <;> rfl
   ·rcases List.mem_cons.1 ht with rfl | ht
    ·simp only; omega
    ·exact h3 t ht
 | cons x a =>
  cases b with
  | nil =>
   simp only [z1x,Bool.and_eq_true,decide_eq_true_eq] at ha
   simp only [List.length_cons,List.length_nil] at hn
   obtain ⟨h1,h2,h3⟩:=ih (a.length + 0) (by omega) (a:=a) (b:=[]) (last:=x.1) ha.2 rfl (by simp)
   rw [z8n]
   refine ⟨⟨ha.1.1,ha.1.2.1,h1⟩,fun u => ?_,fun t ht => ?_⟩
   ·rw [lk,h2]
    simp only [ex]
    split <;> rfl
   ·rcases List.mem_cons.1 ht with rfl | ht
    ·simp only; omega
    ·exact h3 t ht
  | cons y b =>
   have hA:=ha
   have hB:=hb
   simp only [z1x,Bool.and_eq_true,decide_eq_true_eq] at ha hb
   simp only [List.length_cons] at hn
   rw [z8o]
   split
   ·rename_i hlt
    have hb':z1x x.1 (y :: b) = true:=by simp only [z1x,Bool.and_eq_true,decide_eq_true_eq]; exact ⟨⟨hlt,hb.1.2⟩,hb.2⟩
    obtain ⟨h1,h2,h3⟩:=ih (a.length + (b.length + 1)) (by omega) (a:=a) (b:=y :: b) (last:=x.1) ha.2 hb' (by simp)
    refine ⟨⟨ha.1.1,ha.1.2.1,h1⟩,fun u => ?_,fun t ht => ?_⟩
    ·rw [lk,h2]
     by_cases hu:x.1 = u
     ·rw [if_pos hu,← hu,zc3 hb' (Int.le_refl _),ex,if_pos rfl]
     ·rw [if_neg hu]; conv => rhs; rw [ex,if_neg hu]
    ·rcases List.mem_cons.1 ht with rfl | ht
     ·simp only; omega
     ·exact h3 t ht
   ·split
    ·rename_i hnlt hlt
     have ha':z1x y.1 (x :: a) = true:=by simp only [z1x,Bool.and_eq_true,decide_eq_true_eq]; exact ⟨⟨hlt,ha.1.2⟩,ha.2⟩
     obtain ⟨h1,h2,h3⟩:=ih (a.length + 1 + b.length) (by omega) (a:=x :: a) (b:=b) (last:=y.1) ha' hb.2 (by simp)
     refine ⟨⟨hb.1.1,hb.1.2.1,h1⟩,fun u => ?_,fun t ht => ?_⟩
     ·rw [lk,h2]
      by_cases hu:y.1 = u
      ·rw [if_pos hu,← hu,zc3 ha' (Int.le_refl _),ex,if_pos rfl]
      ·rw [if_neg hu,show ex (y :: b) u = ex b u by rw [ex,if_neg hu]]
     ·rcases List.mem_cons.1 ht with rfl | ht
      ·simp only; omega
      ·exact h3 t ht
    ·rename_i h3 h4
     have hxy:x.1 = y.1:=by omega
     rw [← hxy] at hb
     obtain ⟨h1,h2,h5⟩:=ih (a.length + b.length) (by omega) (a:=a) (b:=b) (last:=x.1) ha.2 hb.2 (by simp)
     refine ⟨⟨ha.1.1,ha.1.2.1,h1⟩,fun u => ?_,fun t ht => ?_⟩
     ·rw [lk,h2]
      by_cases hu:x.1 = u
      ·rw [if_pos hu,ex,if_pos hu,ex,if_pos (by omega)]
      ·rw [if_neg hu,show ex (y :: b) u = ex b u by rw [ex,if_neg (by omega)],show ex (x :: a) u = ex a u by rw [ex,if_neg hu]]
     ·rcases List.mem_cons.1 ht with rfl | ht
      ·simp only; omega
      ·exact h5 t ht
theorem z93 {a b:Mono} (ha:okM a = true) (hb:okM b = true) (u:Int):ex (z0m a b) u = ex a u + ex b u:=by
 obtain ⟨h1,h2,-⟩:=zjh ha hb
 unfold z0m
 rw [zj7 (by simp) h1,h2]
 have h3:=z92 ha u
 have h4:=z92 hb u
 simp only
 split <;> omega
theorem zwo {last:Int} {l:List (Int × Int × Int)} (h:ris last l):z1x last (z43 (· + ·) l) = true:=by
 have weak:∀ {l k:Int} {m:Mono},z1x l m = true → k ≤ l → z1x k m = true:=by
  intro l k m h hk
  cases m with
  | nil => rfl
  | cons x r =>
   simp only [z1x,Bool.and_eq_true,decide_eq_true_eq] at h ⊢
   exact ⟨by omega,h.2⟩
 induction l generalizing last with
 | nil => rfl
 | cons t r ih =>
  obtain ⟨h1,h2,h3⟩:=h
  have hr:=ih h3
  rw [z43]
  split
  ·rename_i h4
   simp only [z1x,Bool.and_eq_true,decide_eq_true_eq]
   exact ⟨by omega,hr⟩
  ·exact weak hr (by omega)
theorem z94 {a b:Mono} (ha:okM a = true) (hb:okM b = true):okM (z0m a b) = true:=zwo (zjh ha hb).1
theorem zlj {a b:Mono} (ha:okM a = true) (hb:okM b = true):z0m a b = z0m b a :=
 zv1 (z94 ha hb) (z94 hb ha) (fun v => by rw [z93 ha hb,z93 hb ha]; omega)
theorem z72 {a:Mono} (ha:okM a = true):z0m a [] = a:=zv1 (z94 ha rfl) ha (fun v => by rw [z93 ha rfl]; simp [ex])
theorem zp1 {a b:Mono} (ha:okM a = true) (hb:mayM b = true) (h:∀ u,ex a u ≤ ex b u):mayM a = true:=zyf ha (fun u => Int.le_trans (h u) (z2t hb u).2)
/-! Linear functionals -/
def zek (p:PZ):Prop:=∀ t ∈ p,okM t.2 = true
theorem z73 {p:PZ} (h:z0k p):zek p:=fun t ht => zjg (h t ht)
def ev (f:Mono → Int):PZ → Int
 | [] => 0
 | t :: r => t.1 * f t.2 + ev f r
theorem z95 (f:Mono → Int) (p q:PZ):ev f (p ++ q) = ev f p + ev f q:=by
 induction p with
 | nil => simp [ev]
 | cons t r ih => simp only [List.cons_append,ev,ih]; omega
theorem z96 {f g:Mono → Int} {p:PZ} (h:∀ t ∈ p,f t.2 = g t.2):ev f p = ev g p:=by
 induction p with
 | nil => rfl
 | cons t r ih => simp only [ev]; rw [h t (by simp),ih (fun u hu => h u (by simp [hu]))]
theorem zyg (f g:Mono → Int) (p:PZ):ev (fun m => f m + g m) p = ev f p + ev g p:=by
 induction p with
 | nil => rfl
 | cons t r ih => simp only [ev,ih,Int.mul_add]; omega
theorem zp2 (c:Int) (f:Mono → Int) (p:PZ):ev (fun m => c * f m) p = c * ev f p:=by
 induction p with
 | nil => simp [ev]
 | cons t r ih => simp only [ev,ih,Int.mul_add,Int.mul_left_comm]
theorem zc4 {f:Mono → Int} {p:PZ} (h:∀ t ∈ p,f t.2 = 0):ev f p = 0:=by
 induction p with
 | nil => rfl
 | cons t r ih => simp only [ev]; rw [h t (by simp),ih (fun u hu => h u (by simp [hu]))]; simp
theorem zwp (F:Mono → Mono → Int) (p q:PZ):ev (fun a => ev (fun b => F a b) q) p = ev (fun b => ev (fun a => F a b) p) q:=by
 induction p with
 | nil =>
  simp only [ev]
  exact (zc4 (fun _ _ => rfl)).symm
 | cons t r ih =>
  simp only [ev]
  rw [ih,← zp2,← zyg]
theorem zgt (f:Mono → Int) (g:Int × Mono → Option (Int × Mono)) (s:Mono → Bool) (c:Mono → Int) (k:Mono → Mono) (h:∀ t,g t = if s t.2 then some (t.1 * c t.2,k t.2) else none) (p:PZ):ev f (p.filterMap g) = ev (fun m => if s m then c m * f (k m) else 0) p:=by
 induction p with
 | nil => rfl
 | cons t r ih =>
  rw [List.filterMap_cons,h]
  cases hs:s t.2 with
  | true => simp only [if_true,ev,ih,hs,Int.mul_assoc]
  | false => simp only [Bool.false_eq_true,if_false,ev,ih,hs,Int.mul_zero,Int.zero_add]
def dl (m:Mono):Mono → Int:=fun x => if x = m then 1 else 0
theorem zlk (m:Mono) (p:PZ):ev (dl m) p = cf p m:=by
 induction p with
 | nil => rfl
 | cons t r ih =>
  simp only [ev,cf,ih,dl]
  split <;> simp
def Eqv (p q:PZ):Prop:=∀ f,ev f p = ev f q
theorem Eqv.refl (p:PZ):Eqv p p:=fun _ => rfl
theorem Eqv.trans {p q r:PZ} (h:Eqv p q) (k:Eqv q r):Eqv p r:=fun f => (h f).trans (k f)
theorem Eqv.cf {p q:PZ} (h:Eqv p q) (m:Mono):cf p m = cf q m:=by rw [← zlk,← zlk]; exact h _
theorem zp3 (p:PZ) (m x:Mono):cf (p.filter fun t => decide (t.2 ≠ m)) x = if x = m then 0 else cf p x:=by
 induction p with
 | nil => simp [cf]
 | cons t r ih =>
  by_cases h:t.2 = m
  ·rw [List.filter_cons_of_neg (by simpa using h),ih]
   by_cases hx:x = m
   ·rw [if_pos hx,if_pos hx]
   ·rw [if_neg hx,if_neg hx,cf,if_neg (by rw [h]; exact fun e => hx e.symm)]
    omega
  ·rw [List.filter_cons_of_pos (by simpa using h),cf,ih]
   by_cases hx:x = m
   ·rw [if_pos hx,if_pos hx,if_neg (by rw [hx]; exact h)]
    rfl
   ·rw [if_neg hx,if_neg hx,cf]
theorem zp4 (f:Mono → Int) (p:PZ) (m:Mono):ev f p = cf p m * f m + ev f (p.filter fun t => decide (t.2 ≠ m)):=by
 induction p with
 | nil => simp [ev,cf]
 | cons t r ih =>
  by_cases h:t.2 = m
  ·rw [List.filter_cons_of_neg (by simpa using h),ev,cf,if_pos h,ih,h,Int.add_mul]
   omega
  ·rw [List.filter_cons_of_pos (by simpa using h),ev,cf,if_neg h,ih,ev]
   simp only [Int.zero_add]
   omega
theorem zll {p:PZ} (h:∀ m,cf p m = 0) (f:Mono → Int):ev f p = 0:=by
 generalize hn:p.length = n
 induction n using Nat.strongRecOn generalizing p with
 | ind n ih =>
 cases p with
 | nil => rfl
 | cons t r =>
  rw [zp4 f (t :: r) t.2,h]
  have hl:((t :: r).filter fun u => decide (u.2 ≠ t.2)).length < n:=by
   rw [List.filter_cons_of_neg (by simp),← hn]
   exact Nat.lt_succ_of_le (List.length_filter_le _ _)
  rw [ih _ hl (fun m => by
   rw [zp3]
   split
   ·rfl
   ·exact h m) rfl]
  simp
theorem zp5 (f:Mono → Int) (p:PZ):ev f (p.map fun t => (-t.1,t.2)) = - ev f p:=by
 induction p with
 | nil => rfl
 | cons t r ih => simp only [List.map_cons,ev,ih,Int.neg_mul]; omega
theorem zp6 {p q:PZ} (h:∀ m,cf p m = cf q m):Eqv p q:=fun f => by
 have h1:ev f (p ++ q.map fun t => (-t.1,t.2)) = 0:=zll (fun m => by
  rw [← zlk,z95,zp5,zlk,zlk,h]
  omega) f
 rw [z95,zp5] at h1
 omega
theorem zyh {p q:PZ} (hp:canP p) (hq:canP q) (h:Eqv p q):p = q:=zds hp hq (fun m _ => h.cf m)
/-! Products -/
def mulL (p q:PZ):PZ:=p.flatMap fun t => q.map fun u => (t.1 * u.1,z0m t.2 u.2)
theorem z8g (f:Mono → Int) (p q:PZ):ev f (mulL p q) = ev (fun a => ev (fun b => f (z0m a b)) q) p:=by
 unfold mulL
 induction p with
 | nil => rfl
 | cons t r ih =>
  rw [List.flatMap_cons,z95,ih]
  simp only [ev]
  congr 1
  rw [← zp2]
  clear ih
  induction q with
  | nil => rfl
  | cons u s ih2 =>
   simp only [List.map_cons,ev,ih2]
   rw [Int.mul_assoc,Int.mul_left_comm]
theorem Eqv.mul {p q p' q':PZ} (h:Eqv p p') (k:Eqv q q'):Eqv (mulL p q) (mulL p' q'):=fun f => by
 rw [z8g,z8g,h]
 have:(fun a => ev (fun b => f (z0m a b)) q) = fun a => ev (fun b => f (z0m a b)) q':=funext fun a => k _
 rw [this]
theorem zgu {p q:PZ} (hp:zek p) (hq:zek q):Eqv (mulL p q) (mulL q p):=fun f => by
 rw [z8g,z8g,zwp]
 refine z96 (fun u hu => z96 (fun t ht => ?_))
 rw [zlj (hp t ht) (hq u hu)]
/-! The canonical list of any -/
theorem z3n {p:PZ} (h:z0k p):canP (z1t p):=(zam z2u h).1
theorem zp7 {p:PZ} (h:z0k p) (m:Mono):cf (z1t p) m = cf p m:=by
 have:=(zam z2u h).2 m
 rw [show cf [] m = 0 from rfl,Int.zero_add] at this
 exact this
theorem z7r {p:PZ} (h:z0k p):Eqv (z1t p) p:=zp6 (zp7 h)
theorem zgv {α β:Type} {f g:α → List β} {l:List α} (h:∀ x ∈ l,f x = g x):l.flatMap f = l.flatMap g:=by
 induction l with
 | nil => rfl
 | cons x r ih => rw [List.flatMap_cons,List.flatMap_cons,h x (by simp),ih (fun y hy => h y (by simp [hy]))]
theorem zlm {p q:PZ} (hp:z0k p) (hq:z0k q) (h:z0k (mulL p q)):z4l p q = (mulL p q).map some:=by
 unfold z4l mulL
 rw [List.map_flatMap]
 refine zgv (fun t ht => ?_)
 rw [List.map_map]
 refine List.map_congr_left (fun u hu => ?_)
 exact zj8 (hp t ht) (hq u hu) (h _ (List.mem_flatMap.2 ⟨t,ht,List.mem_map.2 ⟨u,hu,rfl⟩⟩))
theorem z7s {p q:PZ} (hp:z0k p) (hq:z0k q) (h:z0k (mulL p q)):z0g p q = some (z1t (mulL p q)):=by
 unfold z0g
 rw [zlm hp hq h,zg3]
 rfl
theorem z3w {p q c:PZ} (hp:z0k p) (hq:z0k q) (h:z0g p q = some c):z0k (mulL p q) ∧ c = z1t (mulL p q):=by
 have hm:z0k (mulL p q):=fun x hx => by
  obtain ⟨t,ht,h2⟩:=List.mem_flatMap.1 hx
  obtain ⟨u,hu,rfl⟩:=List.mem_map.1 h2
  cases hm:mayM (z0m t.2 u.2) with
  | true => rfl
  | false =>
   exfalso
   have h3:(none:Option (Int × Mono)) ∈ z4l p q:=List.mem_flatMap.2 ⟨t,ht,List.mem_map.2 ⟨u,hu,zok (hp t ht) (hq u hu) hm⟩⟩
   obtain ⟨l,r,e⟩:=List.append_of_mem h3
   unfold z0g at h
   rw [e,zg4] at h
   cases h
 refine ⟨hm,?_⟩
 rw [z7s hp hq hm] at h
 exact (Option.some.inj h).symm
end
section
theorem zar {p:PZ} (h:z0k p) {t:Int × Mono} (ht:t ∈ z1t p):∃ u ∈ p,u.2 = t.2:=by
 have h1:=(z3n h).cf_mem ht
 rw [zp7 h] at h1
 have h2:=((z3n h).1 t ht).1
 exact canP.mem_of_cf (by rw [h1]; exact h2)
theorem z7t {p q:PZ} {x:Int × Mono} (h:x ∈ mulL p q):∃ t ∈ p,∃ u ∈ q,x = (t.1 * u.1,z0m t.2 u.2):=by
 obtain ⟨t,ht,h2⟩:=List.mem_flatMap.1 h
 obtain ⟨u,hu,rfl⟩:=List.mem_map.1 h2
 exact ⟨t,ht,u,hu,rfl⟩
theorem zst {p q:PZ} {t u:Int × Mono} (ht:t ∈ p) (hu:u ∈ q):(t.1 * u.1,z0m t.2 u.2) ∈ mulL p q:=List.mem_flatMap.2 ⟨t,ht,List.mem_map.2 ⟨u,hu,rfl⟩⟩
theorem zji {s a t b:Mono} (hs:mayM s = true) (ha:mayM a = true) (ht:mayM t = true) (hb:mayM b = true) (h1:z0e s a = 1) (h2:b = t ∨ z0e t b = 1):z0m a b ≠ z0m s t:=by
 intro e
 have hex:∀ u,ex a u + ex b u = ex s u + ex t u:=fun u => by
  rw [← z2k ha hb,← z2k hs ht,e]
 obtain ⟨u,h3,h4⟩:=(z48 hs ha).1 h1
 rcases h2 with rfl | h2
 ·have:=hex u; omega
 ·obtain ⟨v,h5,h6⟩:=(z48 ht hb).1 h2
  rcases Int.lt_trichotomy u v with g | g | g
  ·have:=hex v; have:=h4 v g; omega
  ·subst g; have:=hex u; omega
  ·have:=hex u; have:=h6 u g; omega
theorem zsu {s t:Int × Mono} {A B:PZ} (hA:canP (s :: A)) (hB:canP (t :: B)):cf (mulL (s :: A) (t :: B)) (z0m s.2 t.2) = s.1 * t.1:=by
 have hs:=(hA.1 s (by simp)).2
 have ht:=(hB.1 t (by simp)).2
 rw [← zlk,z8g]
 simp only [ev]
 have e1:ev (fun a => t.1 * dl (z0m s.2 t.2) (z0m a t.2) + ev (fun b => dl (z0m s.2 t.2) (z0m a b)) B) A = 0:=by
  refine zc4 (fun a ha => ?_)
  have hma:=(hA.1 a (by simp [ha])).2
  have h1:=hA.head a ha
  have e2:dl (z0m s.2 t.2) (z0m a.2 t.2) = 0:=if_neg (zji hs hma ht ht h1 (.inl rfl))
  have e3:ev (fun b => dl (z0m s.2 t.2) (z0m a.2 b)) B = 0:=zc4 (fun b hb => if_neg (zji hs hma ht (hB.1 b (by simp [hb])).2 h1 (.inr (hB.head b hb))))
  rw [e2,e3]
  simp
 have e4:ev (fun b => dl (z0m s.2 t.2) (z0m s.2 b)) B = 0:=by
  refine zc4 (fun b hb => if_neg (fun e => ?_))
  have hmb:=(hB.1 b (by simp [hb])).2
  obtain ⟨u,h3,h4⟩:=(z48 ht hmb).1 (hB.head b hb)
  have:=z2k hs hmb u
  rw [e,z2k hs ht] at this
  omega
 rw [e1,e4,show dl (z0m s.2 t.2) (z0m s.2 t.2) = 1 from if_pos rfl]
 simp
theorem zv2 {A B D:PZ} (hA:canP A) (hB:canP B) (hA0:A ≠ []) (hB0:B ≠ []) (h:Eqv D (mulL A B)):D ≠ []:=by
 rintro rfl
 cases A with
 | nil => exact hA0 rfl
 | cons s A =>
  cases B with
  | nil => exact hB0 rfl
  | cons t B =>
   have h1:=h.cf (z0m s.2 t.2)
   rw [zsu hA hB] at h1
   exact Int.mul_ne_zero (hA.1 s (by simp)).1 (hB.1 t (by simp)).1 h1.symm
theorem z74 (f:Mono → Int) (p:PZ) (v e:Int):ev f (z3b p v e) = ev (fun m => if ex m v = e then f (z0r m v) else 0) p:=by
 unfold z3b
 rw [zgt f (zbu v e) (fun m => decide (ex m v = e)) (fun _ => 1) (fun m => z0r m v) (fun t => by
  unfold zbu
  by_cases h:ex t.2 v = e
  ·rw [if_pos h,decide_eq_true h,if_pos rfl,Int.mul_one]
  ·rw [if_neg h,decide_eq_false h,if_neg (by simp)])]
 refine z96 (fun t _ => ?_)
 by_cases h:ex t.2 v = e
 ·rw [decide_eq_true h,if_pos rfl,if_pos h,Int.one_mul]
 ·rw [decide_eq_false h,if_neg (by simp),if_neg h]
theorem zjj {p q:PZ} (h:Eqv p q) (v e:Int):Eqv (z3b p v e) (z3b q v e):=fun f => by rw [z74,z74,h]
theorem zel {a b:Mono} (ha:mayM a = true) (hb:mayM b = true) (hab:mayM (z0m a b) = true) (v:Int):z0r (z0m a b) v = z0m (z0r a v) (z0r b v):=by
 have h1:=z2z ha v
 have h2:=z2z hb v
 have h3:mayM (z0m (z0r a v) (z0r b v)) = true:=zp1 (z94 (zjg h1) (zjg h2)) hab (fun u => by
  rw [z2k h1 h2,z2k ha hb,z27,z27]
  have:=z52 ha u; have:=z52 hb u
  split <;> omega)
 refine zga (z2z hab v) h3 (fun u => ?_)
 rw [z27,z2k ha hb,z2k h1 h2,z27,z27]
 split <;> omega
theorem zwq {p:PZ} (h:z0k p) (h0:p ≠ []) (v:Int):∃ t ∈ p,ex t.2 v = degP p v:=by
 rcases Int.lt_or_le 0 (degP p v) with g | g
 ·exact zsi g
 ·cases p with
  | nil => exact absurd rfl h0
  | cons t r =>
   have h1:=z1u (p:=t :: r) (t:=t) (by simp) v
   have h2:=z52 (h t (by simp)) v
   have h3:=(z18 h v).1
   exact ⟨t,by simp,by omega⟩
theorem z6e {p:PZ} (h:z0k p) (h0:p ≠ []) (v:Int):z3b p v (degP p v) ≠ []:=by
 obtain ⟨t,ht,e⟩:=zwq h h0 v
 have:(t.1,z0r t.2 v) ∈ z3b p v (degP p v):=List.mem_filterMap.2 ⟨t,ht,by unfold zbu; rw [if_pos e]⟩
 intro e2
 rw [e2] at this
 simp at this
section
variable {P Q C:PZ}
theorem zem (hP:canP P) (hQ:canP Q) (h:z0g P Q = some C) (v:Int):Eqv (z3b C v (degP P v + degP Q v)) (mulL (z3b P v (degP P v)) (z3b Q v (degP Q v))):=by
 obtain ⟨hm,rfl⟩:=z3w hP.may hQ.may h
 refine (zjj (z7r hm) v _).trans (fun f => ?_)
 rw [z74,z8g,z8g,z74]
 refine z96 (fun a ha => ?_)
 have ha1:=z1u ha v
 by_cases h1:ex a.2 v = degP P v
 ·rw [if_pos h1,z74]
  refine z96 (fun b hb => ?_)
  have hb1:=z1u hb v
  have hab:=hm _ (zst ha hb)
  rw [z2k (hP.1 a ha).2 (hQ.1 b hb).2]
  by_cases h2:ex b.2 v = degP Q v
  ·rw [if_pos h2,if_pos (by omega),zel (hP.1 a ha).2 (hQ.1 b hb).2 hab]
  ·rw [if_neg h2,if_neg (by omega)]
 ·rw [if_neg h1]
  refine zc4 (fun b hb => ?_)
  have hb1:=z1u hb v
  rw [z2k (hP.1 a ha).2 (hQ.1 b hb).2,if_neg (by omega)]
theorem z35 (hP:canP P) (hQ:canP Q) (h:z0g P Q = some C):canP C:=by
 obtain ⟨hm,rfl⟩:=z3w hP.may hQ.may h
 exact z3n hm
theorem zp8 (hP:canP P) (hQ:canP Q) (h:z0g P Q = some C) {t:Int × Mono} (ht:t ∈ C):∃ a ∈ P,∃ b ∈ Q,∀ u,ex t.2 u = ex a.2 u + ex b.2 u:=by
 obtain ⟨hm,rfl⟩:=z3w hP.may hQ.may h
 obtain ⟨x,hx,e⟩:=zar hm ht
 obtain ⟨a,ha,b,hb,rfl⟩:=z7t hx
 exact ⟨a,ha,b,hb,fun u => by rw [← e]; exact z2k (hP.1 a ha).2 (hQ.1 b hb).2 u⟩
theorem zc5 (hP:canP P) (hQ:canP Q) (hP0:P ≠ []) (hQ0:Q ≠ []) (h:z0g P Q = some C) (v:Int):degP C v = degP P v + degP Q v:=by
 have h1:=(z18 hP.may v).1
 have h2:=(z18 hQ.may v).1
 refine Int.le_antisymm (zbv (by omega) (fun t ht => ?_)) ?_
 ·obtain ⟨a,ha,b,hb,e⟩:=zp8 hP hQ h ht
  have:=z1u ha v
  have:=z1u hb v
  rw [e]
  omega
 ·have h3:=zv2 (z2h hP v _) (z2h hQ v _) (z6e hP.may hP0 v) (z6e hQ.may hQ0 v) (zem hP hQ h v)
  obtain ⟨t,ht⟩:=List.exists_mem_of_ne_nil _ h3
  obtain ⟨u,hu,e,-⟩:=z8w ht
  rw [← e]
  exact z1u hu v
theorem zsv (hP:canP P) (hQ:canP Q) (hP0:P ≠ []) (hQ0:Q ≠ []) (h:z0g P Q = some C):C ≠ []:=by
 obtain ⟨hm,rfl⟩:=z3w hP.may hQ.may h
 exact zv2 hP hQ hP0 hQ0 (z7r hm)
def zsw (p q:PZ):Prop:=∀ t ∈ p,∃ u ∈ q,∀ v,ex t.2 v ≤ ex u.2 v
end
end
section
theorem z3i {α:Type} {xs ys:List α} {k:Nat} {x:α} (h:xs.take k = ys.take k) (hx:xs[k]? = some x) (hy:ys[k]? = some x):xs.take (k + 1) = ys.take (k + 1):=by
 rw [List.take_add_one,List.take_add_one,h,hx,hy]
theorem z6f {α:Type} {xs ys:List α} {k:Nat} {x y:α} (hx:xs[k]? = some x) (hy:ys[k]? = some y) (h:x ≠ y):xs ≠ ys:=by
 rintro rfl
 rw [hx] at hy
 exact h (Option.some.inj hy)
end
section
open Go.RowKit
theorem zp9 {S:Nat → Prop} (va vb:Value) (xs ys:List Nat) (w:World) (ha:U32s S w va xs) (hb:U32s S w vb ys) (hS:∀ k,S k → k < w.heap.size) :
  Calls Tryz.prog 82 #[va,vb] w fun e w' => e = .returned (.bool (decide (xs = ys))) ∧ Ext w w':=by
 have HA:=hid ha
 have HB:=hid hb
 have hla:=ha.len_le
 have hlb:=hb.len_le
 obtain ⟨aa,ca,rfl⟩:=ha.form
 obtain ⟨ab,cb,rfl⟩:=hb.form
 obtain ⟨na,hna⟩:∃ n,n = xs.length:=⟨_,rfl⟩
 obtain ⟨nb,hnb⟩:∃ n,n = ys.length:=⟨_,rfl⟩
 rw [← hna] at HA hla ⊢
 rw [← hnb] at HB hlb ⊢
 have HNA:=hid hna
 have HNB:=hid hnb
 clear ha hb hna hnb
 by_cases hne:na = nb
 ·subst hne
  go_enter Tryz.func82,Tryz.ntmps82
  go_wp2
  go_loopw [5,13] (fun _ i wr => ∃ k:Nat,k ≤ na ∧ i = .int .i64 k ∧ Ext w wr ∧ Hid (xs.take k = ys.take k)) (fun _ i _ => na - (intOf i).toNat)
  case atStart => exact ⟨0,Nat.zero_le _,rfl,Ext.refl _,rfl⟩
  case round =>
   obtain ⟨k,hk,rfl,hx,HE⟩:=hrel
   have HX:=hid hx
   by_cases hlt:k < na
   ·obtain ⟨x,hxk⟩:=z01 (l:=xs) (j:=k) (by rw [← HNA.out]; exact hlt)
    obtain ⟨y,hyk⟩:=z01 (l:=ys) (j:=k) (by rw [← HNB.out]; exact hlt)
    obtain ⟨b1,o1,rfl,-,hc1,hm1,hz1,h1⟩:=(HA.out.ext hx hS).cellAt hxk
    obtain ⟨b2,o2,rfl,-,hc2,hm2,hz2,h2⟩:=(HB.out.ext hx hS).cellAt hyk
    have HXK:=hid hxk
    have HYK:=hid hyk
    clear hxk hyk hx
    by_cases he:x = y
    ·have q1:((x:Int) != (y:Int)) = false:=by rw [he]; simp
     have H0:=hid he
     clear he
     go_wp2
     go_quiet (fail)
     go_wp2
     go_roundw
     case rel => exact ⟨k + 1,by omega,by go_num,HX.out.drewN _,z3i HE.out HXK.out (by rw [H0.out]; exact HYK.out)⟩
     case measure => simp only [intOf]; omega
    ·have q1:((x:Int) != (y:Int)) = true:=by rw [bne_iff_ne]; omega
     have HF:Hid (xs ≠ ys):=hid (z6f HXK.out HYK.out he)
     clear he
     go_wp2
     go_quiet (fail)
     go_wp2
     go_ret
     exact ⟨by rw [decide_eq_false HF.out]; rfl,HX.out.drewN _⟩
   ·obtain rfl:k = na:=by omega
    have HF:Hid (xs = ys):=hid (by have:=HE.out; rwa [List.take_of_length_le (by rw [← HNA.out]; exact Nat.le_refl _),List.take_of_length_le (by rw [← HNB.out]; exact Nat.le_refl _)] at this)
    clear hx
    go_wp2
    go_ret
    exact ⟨by rw [decide_eq_true HF.out]; rfl,HX.out⟩
 ·have hb:((na:Int) != (nb:Int)) = true:=by rw [bne_iff_ne]; omega
  have HF:Hid (xs ≠ ys):=hid (fun e => hne (by rw [HNA.out,HNB.out,e]))
  clear hne
  go_enter Tryz.func82,Tryz.ntmps82
  go_wp2
  go_ret
  exact ⟨by rw [decide_eq_false HF.out]; rfl,Ext.refl _⟩
theorem zln {S:Nat → Prop} (va vb:Value) (xs ys:Mono) (w:World) (ha:Pows S w va xs) (hb:Pows S w vb ys) (hS:∀ k,S k → k < w.heap.size) :
  Calls Tryz.prog 83 #[va,vb] w fun e w' => e = .returned (.bool (decide (xs = ys))) ∧ Ext w w':=by
 have HA:=hid ha
 have HB:=hid hb
 have hla:=ha.len_le
 have hlb:=hb.len_le
 obtain ⟨aa,ca,rfl⟩:=ha.form
 obtain ⟨ab,cb,rfl⟩:=hb.form
 obtain ⟨na,hna⟩:∃ n,n = xs.length:=⟨_,rfl⟩
 obtain ⟨nb,hnb⟩:∃ n,n = ys.length:=⟨_,rfl⟩
 rw [← hna] at HA hla ⊢
 rw [← hnb] at HB hlb ⊢
 have HNA:=hid hna
 have HNB:=hid hnb
 clear ha hb hna hnb
 by_cases hne:na = nb
 ·subst hne
  go_enter Tryz.func83,Tryz.ntmps83
  go_wp2
  go_loopw [5,13] (fun _ i wr => ∃ k:Nat,k ≤ na ∧ i = .int .i64 k ∧ Ext w wr ∧ Hid (xs.take k = ys.take k)) (fun _ i _ => na - (intOf i).toNat)
  case atStart => exact ⟨0,Nat.zero_le _,rfl,Ext.refl _,rfl⟩
  case round =>
   obtain ⟨k,hk,rfl,hx,HE⟩:=hrel
   have HX:=hid hx
   by_cases hlt:k < na
   ·obtain ⟨x,hxk⟩:=z01 (l:=xs) (j:=k) (by rw [← HNA.out]; exact hlt)
    obtain ⟨y,hyk⟩:=z01 (l:=ys) (j:=k) (by rw [← HNB.out]; exact hlt)
    obtain ⟨b1,o1,c1',hv1,hc1,hm1,⟨⟨hz1,hz2⟩,hz3,hz4⟩,h1,h1'⟩:=(HA.out.ext hx hS).at hxk
    obtain ⟨rfl,-,rfl⟩:aa = some ⟨b1,o1,none⟩ ∧ na = xs.length ∧ ca = c1':=by simpa using hv1
    obtain ⟨b2,o2,c2',hv2,hc2,hm2,⟨⟨hy1,hy2⟩,hy3,hy4⟩,h2,h2'⟩:=(HB.out.ext hx hS).at hyk
    obtain ⟨rfl,-,rfl⟩:ab = some ⟨b2,o2,none⟩ ∧ na = ys.length ∧ cb = c2':=by simpa using hv2
    clear hv1 hv2
    rw [← HNA.out] at hc1
    rw [← HNB.out] at hc2
    have HXK:=hid hxk
    have HYK:=hid hyk
    clear hxk hyk hx
    by_cases he:x = y
    ·have H0:=hid he
     obtain ⟨x1,x2⟩:=x
     obtain ⟨y1,y2⟩:=y
     obtain ⟨rfl,rfl⟩:x1 = y1 ∧ x2 = y2:=by simpa using he
     simp only at h1 h1' h2 h2' hz1 hz2 hz3 hz4 hy1 hy2 hy3 hy4
     clear he
     go_wp2
     go_quiet (fail)
     go_wp2
     go_roundw
     case rel => exact ⟨k + 1,by omega,by go_num,HX.out.drewN _,z3i HE.out HXK.out HYK.out⟩
     case measure => simp only [intOf]; omega
    ·have HF:Hid (xs ≠ ys):=hid (z6f HXK.out HYK.out he)
     obtain ⟨x1,x2⟩:=x
     obtain ⟨y1,y2⟩:=y
     simp only at h1 h1' h2 h2' hz1 hz2 hz3 hz4 hy1 hy2 hy3 hy4
     have he':x1 ≠ y1 ∨ (x1 = y1 ∧ x2 ≠ y2):=by
      by_cases h:x1 = y1
      ·exact .inr ⟨h,fun h' => he (by rw [h,h'])⟩
      ·exact .inl h
     clear he
     rcases he' with he | ⟨rfl,he⟩
     all_goals
      go_wp2
      go_quiet (fail)
      go_wp2
      go_ret
      exact ⟨by rw [decide_eq_false HF.out]; rfl,HX.out.drewN _⟩
   ·obtain rfl:k = na:=by omega
    have HF:Hid (xs = ys):=hid (by have:=HE.out; rwa [List.take_of_length_le (by rw [← HNA.out]; exact Nat.le_refl _),List.take_of_length_le (by rw [← HNB.out]; exact Nat.le_refl _)] at this)
    clear hx
    go_wp2
    go_ret
    exact ⟨by rw [decide_eq_true HF.out]; rfl,HX.out⟩
 ·have hb:((na:Int) != (nb:Int)) = true:=by rw [bne_iff_ne]; omega
  have HF:Hid (xs ≠ ys):=hid (fun e => hne (by rw [HNA.out,HNB.out,e]))
  clear hne
  go_enter Tryz.func83,Tryz.ntmps83
  go_wp2
  go_ret
  exact ⟨by rw [decide_eq_false HF.out]; rfl,Ext.refl _⟩
theorem z6x.of_cells {S:Nat → Prop} {w:World} {vm vo:Value} {t:RTerm} (h4:U32s S w vm t.c.mag) (h5:Pows S w vo t.m):z6x S w (.agg #[.bool t.c.neg,vm,vo]) t:=⟨vm,vo,rfl,h4,h5⟩
theorem new3 {w W:World} {u v x:Value} {T:TypeId} (h:Ext (w.alloc (.cells #[u,v,x] T)) W) :
  W.cell? ⟨w.heap.size,0,none⟩ = some u ∧ W.cell? ⟨w.heap.size,1,none⟩ = some v ∧ W.cell? ⟨w.heap.size,2,none⟩ = some x :=
 ⟨h.new_cell rfl,h.new_cell rfl,h.new_cell rfl⟩
theorem zpa {S:Nat → Prop} (va vb:Value) (s t:RTerm) (w:World) (ha:z6x S w va s) (hb:z6x S w vb t) (hS:∀ k,S k → k < w.heap.size) :
  Calls Tryz.prog 81 #[va,vb] w fun e w' => e = .returned (.bool (decide (s = t))) ∧ Ext w w':=by
 obtain ⟨⟨sn,sm⟩,so⟩:=s
 obtain ⟨⟨tn,tm⟩,tq⟩:=t
 obtain ⟨v1,v2,rfl,hu1,hp1⟩:=ha
 obtain ⟨v3,v4,rfl,hu2,hp2⟩:=hb
 simp only at hu1 hp1 hu2 hp2 ⊢
 have CU:=fun (W:World) (hW:Ext w W) => zp9 _ _ sm tm W (hu1.ext hW hS) (hu2.ext hW hS) (z08 hS hW)
 have CP:=fun (W:World) (hW:Ext w W) => zln _ _ so tq W (hp1.ext hW hS) (hp2.ext hW hS) (z08 hS hW)
 obtain ⟨a1,c1,rfl⟩:=hu1.form
 obtain ⟨a2,c2,rfl⟩:=hp1.form
 obtain ⟨a3,c3,rfl⟩:=hu2.form
 obtain ⟨a4,c4,rfl⟩:=hp2.form
 have HCU:=hid CU
 have HCP:=hid CP
 have hx:Ext w ((w.alloc (.cells #[.bool sn,.slice a1 sm.length c1,.slice a2 so.length c2] 50)).alloc (.cells #[.bool tn,.slice a3 tm.length c3,.slice a4 tq.length c4] 50)):=Ext.alloc (Ext.alloc (Ext.refl w) _) _
 have HX:=hid hx
 have HM:Hid (∀ W,Ext ((w.alloc (.cells #[.bool sn,.slice a1 sm.length c1,.slice a2 so.length c2] 50)).alloc (.cells #[.bool tn,.slice a3 tm.length c3,.slice a4 tq.length c4] 50)) W →
   (W.cell? ⟨w.heap.size,0,none⟩ = some (.bool sn) ∧ W.cell? ⟨w.heap.size,1,none⟩ = some (.slice a1 sm.length c1) ∧ W.cell? ⟨w.heap.size,2,none⟩ = some (.slice a2 so.length c2)) ∧
   (W.cell? ⟨w.heap.size + 1,0,none⟩ = some (.bool tn) ∧ W.cell? ⟨w.heap.size + 1,1,none⟩ = some (.slice a3 tm.length c3) ∧ W.cell? ⟨w.heap.size + 1,2,none⟩ = some (.slice a4 tq.length c4))):=hid (fun W hW => by
  have k2:=new3 hW
  rw [z02] at k2
  exact ⟨new3 ((Ext.alloc (Ext.refl _) _).trans hW),k2⟩)
 have HD:Hid ((decide ((⟨⟨sn,sm⟩,so⟩:RTerm) = ⟨⟨tn,tm⟩,tq⟩)) = (decide (sn = tn) && (decide (sm = tm) && decide (so = tq)))):=hid (by
  rw [Bool.eq_iff_iff]
  simp [and_assoc])
 clear CU CP hu1 hp1 hu2 hp2 hx
 obtain ⟨m0,m1,m2⟩:=HM.out _ (Ext.refl _)
 by_cases h1:sn = tn
 ·subst h1
  cases hm:decide (sm = tm) with
  | false =>
   simp only [hm] at HCU
   have HF:=hid hm
   clear hm
   go_enter Tryz.func81,Tryz.ntmps81
   go_wp2_with fail
   with_reducible refine (HCU.out _ HX.out).mono ?_
   rintro e w1 ⟨rfl,hx1⟩
   have HX1:=hid (HX.out.trans hx1)
   clear hx1
   go_wp2
   all_goals
    go_ret
    exact ⟨by rw [HD.out,HF.out]; simp,HX1.out⟩
  | true =>
   simp only [hm] at HCU
   have HF:=hid hm
   clear hm
   go_enter Tryz.func81,Tryz.ntmps81
   go_wp2_with fail
   with_reducible refine (HCU.out _ HX.out).mono ?_
   rintro e w1 ⟨rfl,hx1⟩
   have HX1:=hid (HX.out.trans hx1)
   obtain ⟨⟨k0,k1,k2⟩,k3,k4,k5⟩:=HM.out _ hx1
   clear hx1
   go_wp2_with fail
   with_reducible refine (HCP.out _ HX1.out).mono ?_
   rintro e w2 ⟨rfl,hx2⟩
   have HX2:=hid (HX1.out.trans hx2)
   clear hx2
   go_wp2
   all_goals
    go_ret
    exact ⟨by rw [HD.out,HF.out]; simp,HX2.out⟩
 ·have hb:(sn == tn) = false:=by rw [beq_eq_false_iff_ne]; exact h1
  have HF:=hid (decide_eq_false h1)
  clear h1
  go_enter Tryz.func81,Tryz.ntmps81
  go_wp2
  all_goals
   go_ret
   exact ⟨by rw [HD.out,HF.out]; simp,HX.out⟩
theorem zic {S:Nat → Prop} (va vb:Value) (xs ys:List RTerm) (w:World) (ha:z06 S w va xs) (hb:z06 S w vb ys) (hS:∀ k,S k → k < w.heap.size) :
  Calls Tryz.prog 80 #[va,vb,.func (.func 81) #[] #[]] w fun e w' => e = .returned (.bool (decide (xs = ys))) ∧ Ext w w':=by
 have hnot:∀ (x:Bool) (w:World),(Op.unary .not (.bool x)).run Tryz.prog w = .ok (.bool (!x)) w:=fun _ _ => rfl
 have HA:=hid ha
 have HB:=hid hb
 have hla:=ha.len_le
 have hlb:=hb.len_le
 obtain ⟨aa,ca,rfl⟩:=ha.form
 obtain ⟨ab,cb,rfl⟩:=hb.form
 obtain ⟨na,hna⟩:∃ n,n = xs.length:=⟨_,rfl⟩
 obtain ⟨nb,hnb⟩:∃ n,n = ys.length:=⟨_,rfl⟩
 rw [← hna] at HA hla ⊢
 rw [← hnb] at HB hlb ⊢
 have HNA:=hid hna
 have HNB:=hid hnb
 clear ha hb hna hnb
 by_cases hne:na = nb
 ·subst hne
  go_enter Tryz.func80,Tryz.ntmps80
  go_wp2
  go_loopw [7,8,9,17] (fun _ _ _ i wr => ∃ k:Nat,k ≤ na ∧ i = .int .i64 k ∧ Ext w wr ∧ Hid (xs.take k = ys.take k)) (fun _ _ _ i _ => na - (intOf i).toNat)
  case atStart => exact ⟨0,Nat.zero_le _,rfl,Ext.refl _,rfl⟩
  case round =>
   obtain ⟨k,hk,rfl,hx,HE⟩:=hrel
   have HX:=hid hx
   by_cases hlt:k < na
   ·obtain ⟨x,hxk⟩:=z01 (l:=xs) (j:=k) (by rw [← HNA.out]; exact hlt)
    obtain ⟨y,hyk⟩:=z01 (l:=ys) (j:=k) (by rw [← HNB.out]; exact hlt)
    obtain ⟨b1,o1,v1,v2,rfl,-,hc1,hm1,hz1,h1,h2,h3,h4,h5⟩:=(HA.out.ext hx hS).cellAt hxk
    obtain ⟨b2,o2,v3,v4,rfl,-,hc2,hm2,hz2,g1,g2,g3,g4,g5⟩:=(HB.out.ext hx hS).cellAt hyk
    have HXK:=hid hxk
    have HYK:=hid hyk
    have HC:=hid (fun W (hW:Ext wr W) => zpa (S:=S) _ _ x y W (z6x.of_cells (h4.ext hW (z08 hS hx)) (h5.ext hW (z08 hS hx))) (z6x.of_cells (g4.ext hW (z08 hS hx)) (g5.ext hW (z08 hS hx))) (z08 hS (hx.trans hW)))
    obtain ⟨a1,c1,rfl⟩:=h4.form
    obtain ⟨a2,c2,rfl⟩:=h5.form
    obtain ⟨a3,c3,rfl⟩:=g4.form
    obtain ⟨a4,c4,rfl⟩:=g5.form
    have HX2:=hid (Ext.alloc (Ext.alloc (Ext.refl wr) (.cells #[.bool x.c.neg,.slice a1 x.c.mag.length c1,.slice a2 x.m.length c2] 50)) (.cells #[.bool y.c.neg,.slice a3 y.c.mag.length c3,.slice a4 y.m.length c4] 50))
    have n1:=new3 (w:=wr) (u:=.bool x.c.neg) (v:=.slice a1 x.c.mag.length c1) (x:=.slice a2 x.m.length c2) (T:=50) (Ext.refl _)
    have m1':=(Ext.alloc (Ext.refl wr) (.cells #[.bool x.c.neg,.slice a1 x.c.mag.length c1,.slice a2 x.m.length c2] 50)).cell g1
    have m2':=(Ext.alloc (Ext.refl wr) (.cells #[.bool x.c.neg,.slice a1 x.c.mag.length c1,.slice a2 x.m.length c2] 50)).cell g2
    have m3':=(Ext.alloc (Ext.refl wr) (.cells #[.bool x.c.neg,.slice a1 x.c.mag.length c1,.slice a2 x.m.length c2] 50)).cell g3
    clear h4 h5 g4 g5 hxk hyk hx n1
    by_cases he:x = y
    ·have H0:=hid he
     have hd:decide (x = y) = true:=decide_eq_true he
     have HCT:=HC
     simp only [hd] at HCT
     have HCC:=hid HCT.out
     clear he hd HCT
     go_wp2_with fail
     with_reducible refine (HCC.out _ HX2.out).mono ?_
     rintro e w2 ⟨rfl,hx2⟩
     have HX3:=hid (HX.out.trans (HX2.out.trans hx2))
     clear hx2
     go_wp2
     go_roundw
     case rel => exact ⟨k + 1,by omega,by go_num,HX3.out,z3i HE.out HXK.out (by rw [H0.out]; exact HYK.out)⟩
     case measure => simp only [intOf]; omega
    ·have HF:Hid (xs ≠ ys):=hid (z6f HXK.out HYK.out he)
     have hd:decide (x = y) = false:=decide_eq_false he
     have HCT:=HC
     simp only [hd] at HCT
     have HCC:=hid HCT.out
     clear he hd HCT
     go_wp2_with fail
     with_reducible refine (HCC.out _ HX2.out).mono ?_
     rintro e w2 ⟨rfl,hx2⟩
     have HX3:=hid (HX.out.trans (HX2.out.trans hx2))
     clear hx2
     go_wp2
     go_ret
     exact ⟨by rw [decide_eq_false HF.out]; rfl,HX3.out⟩
   ·obtain rfl:k = na:=by omega
    have HF:Hid (xs = ys):=hid (by have:=HE.out; rwa [List.take_of_length_le (by rw [← HNA.out]; exact Nat.le_refl _),List.take_of_length_le (by rw [← HNB.out]; exact Nat.le_refl _)] at this)
    clear hx
    go_wp2
    go_ret
    exact ⟨by rw [decide_eq_true HF.out]; rfl,HX.out⟩
 ·have hb:((na:Int) != (nb:Int)) = true:=by rw [bne_iff_ne]; omega
  have HF:Hid (xs ≠ ys):=hid (fun e => hne (by rw [HNA.out,HNB.out,e]))
  clear hne
  go_enter Tryz.func80,Tryz.ntmps80
  go_wp2
  go_ret
  exact ⟨by rw [decide_eq_false HF.out]; rfl,Ext.refl _⟩
theorem zpb {S:Nat → Prop} (va vb:Value) (xs ys:List RTerm) (w:World) (ha:z06 S w va xs) (hb:z06 S w vb ys) (hS:∀ k,S k → k < w.heap.size) :
  Calls Tryz.prog 43 #[va,vb] w fun e w' => e = .returned (.bool (decide (xs = ys))) ∧ Ext w w':=by
 have C:=hid (zic va vb xs ys w ha hb hS)
 obtain ⟨aa,ca,rfl⟩:=ha.form
 obtain ⟨ab,cb,rfl⟩:=hb.form
 generalize decide (xs = ys) = b at *
 clear ha hb
 go_enter Tryz.func43,Tryz.ntmps43
 go_wp2_with fail
 with_reducible refine C.out.mono ?_
 rintro e w2 ⟨rfl,hx2⟩
 have HX:=hid hx2
 clear hx2
 go_wp2
 go_ret
 exact ⟨rfl,HX.out⟩
end
section
open Go.RowKit
def Fit (k n:Nat) (p:PZ):Prop:=canP p ∧ bndZ k p ∧ p.length ≤ n
abbrev PV (W:World) (v:Value) (p:PZ):Prop:=z06 (Old W) W v (ofP p)
section
variable {k l n m:Nat} {p q:PZ}
theorem Fit.can (h:Fit k n p):canP p:=h.1
theorem Fit.mono (h:Fit k n p) (hk:k ≤ l) (hn:n ≤ m):Fit l m p:=⟨h.1,h.2.1.mono hk,Nat.le_trans h.2.2 hn⟩
theorem Fit.lens (h:Fit k n p):∀ t ∈ ofP p,t.c.mag.length ≤ k:=zsr h.2.1
theorem Fit.small (h:Fit k n p) (hk:k ≤ 1000000):z3r (ofP p):=zov h.2.1 (by omega)
theorem Fit.may (h:Fit k n p):mayT (ofP p) = true:=z7d h.1
theorem Fit.plain (h:Fit k n p):z0q (ofP p) = p:=z7p h.1
theorem Fit.len (h:Fit k n p):(ofP p).length ≤ n:=by rw [zej]; exact h.2.2
theorem z8h:Fit 0 0 []:=⟨z2u,fun t ht => by simp at ht,by simp⟩
theorem z97 {α β:Type} (f:α → Option β) (l:List α):(l.filterMap f).length ≤ l.length:=List.length_filterMap_le _ _
theorem Fit.init (h:Fit k n p):Fit k n (z1w p):=⟨zof h.1,zsq h.2.1,by
 unfold z1w
 split
 ·exact h.2.2
 ·exact Nat.le_trans (z97 _ _) h.2.2⟩
theorem Fit.coef (h:Fit k n p) (v e:Int):Fit k n (z3b p v e):=⟨z2h h.1 v e,zjf h.2.1 v e,Nat.le_trans (z97 _ _) h.2.2⟩
theorem zsx (p l:PZ):(addP p l).length ≤ p.length + l.length:=by
 unfold addP
 induction l generalizing p with
 | nil => simp
 | cons t r ih =>
  rw [List.foldl_cons]
  have h1:=ih (putP p t.1 t.2)
  have h2:=zj2 p t.1 t.2
  simp only [List.length_cons]
  omega
theorem zgw (p:PZ):(z1t p).length ≤ p.length:=by
 have:=zsx [] p
 rw [List.length_nil,Nat.zero_add] at this
 exact this
theorem z3j (hp:z0k p) (hq:z0k q):z0k (p ++ q):=fun t ht => by
 rcases List.mem_append.1 ht with g | g
 ·exact hp t g
 ·exact hq t g
theorem Fit.add (hp:Fit k n p) (hq:Fit k m q) (hn:n + m ≤ 1000000000000):Fit (k + 2) (n + m) (z1t (p ++ q)):=by
 have hm:=z3j hp.1.may hq.1.may
 have hl:(p ++ q).length ≤ n + m:=by rw [List.length_append]; have:=hp.2.2; have:=hq.2.2; omega
 exact ⟨z3n hm,zfy hm (hp.2.1.append hq.2.1) (by show _ < 4294967296 ^ 2; omega),Nat.le_trans (zgw _) hl⟩
theorem zsy (p q:PZ):(mulL p q).length = p.length * q.length:=by
 unfold mulL
 induction p with
 | nil => simp
 | cons t r ih => rw [List.flatMap_cons,List.length_append,ih,List.length_map,List.length_cons,Nat.add_mul]; omega
theorem zsz (hp:bndZ k p) (hq:bndZ l q):bndZ (k + l) (mulL p q):=fun x hx => by
 obtain ⟨t,ht,u,hu,rfl⟩:=z7t hx
 exact z2y (zgs (z50 (hp t ht)) (z50 (hq u hu))) (Nat.le_refl _)
theorem Fit.times {c:PZ} (hp:Fit k n p) (hq:Fit l m q) (h:z0g p q = some c) (hn:n * m ≤ 1000000000000):Fit (k + l + 2) (n * m) c:=by
 obtain ⟨hm,rfl⟩:=z3w hp.1.may hq.1.may h
 have hl:(mulL p q).length ≤ n * m:=by rw [zsy]; exact Nat.mul_le_mul hp.2.2 hq.2.2
 exact ⟨z3n hm,zfy hm (zsz hp.2.1 hq.2.1) (by show _ < 4294967296 ^ 2; omega),Nat.le_trans (zgw _) hl⟩
end
theorem zyi {w:World} {v:Value} {ps:List RTerm} (h:z06 (Old w) w v ps) (hm:mayT ps = true):ps = ofP (z0q ps):=by
 unfold z0q
 rw [if_pos hm]
 exact (zvj h.okT hm).symm
theorem zpc {ps:List RTerm} {k n:Nat} (hok:okT ps) (h:∀ t ∈ ps,t.c.mag.length ≤ k) (hn:ps.length ≤ n):Fit k n (z0q ps):=⟨z3e ps,zow hok h,Nat.le_trans (zoy ps) hn⟩
section
variable {W:World} {u v:Value} {p q:PZ} {k l n m:Nat}
theorem zen (hp:PV W u p) (hq:PV W v q) (fp:Fit k n p) (fq:Fit l m q) (hc:k < 24 ∨ l < 24) (hk:k ≤ 1000000) (hl:l ≤ 1000000) (hnm:n * m ≤ 1000000000000) :
  Calls Tryz.prog 74 #[u,v] W (z61 W (z0g p q)):=by
 have h:=zlh u v _ _ W 1000000 hp hq (fun _ h => h) fp.may fq.may (fun t ht => Nat.le_trans (fp.lens t ht) hk) (fun t ht => Nat.le_trans (fq.lens t ht) hl) (by decide)
  (hc.imp (fun h t ht => by
   obtain ⟨x,hx,rfl⟩:=List.mem_map.1 ht
   show lenI (valI (ofI x.1)) < 24
   rw [z0p]
   exact Nat.lt_of_le_of_lt (z50 (fp.2.1 x hx)) h) (fun h t ht => by
   obtain ⟨x,hx,rfl⟩:=List.mem_map.1 ht
   show lenI (valI (ofI x.1)) < 24
   rw [z0p]
   exact Nat.lt_of_le_of_lt (z50 (fq.2.1 x hx)) h))
  (Nat.le_trans (Nat.mul_le_mul fp.len fq.len) hnm)
 rwa [z6t,z6t] at h
theorem zpd (hp:PV W u p) (hq:PV W v q) (fp:Fit k n p) (fq:Fit l m q) (hk:k ≤ 1000000) (hl:l ≤ 1000000) (hn:n + m ≤ 1000000000000) :
  Calls Tryz.prog 21 #[u,v] W (z90 W (z1t (p ++ q))):=by
 have h:=zsn u v _ _ W 1000000 hp hq (fun _ h => h) fp.may fq.may (fun t ht => Nat.le_trans (fp.lens t ht) hk) (fun t ht => Nat.le_trans (fq.lens t ht) hl) (by decide) (by have:=fp.len; have:=fq.len; omega)
 rwa [z6t,z6t] at h
theorem zyj (hp:PV W u p) (hq:PV W v q):Calls Tryz.prog 43 #[u,v] W fun e w' => e = .returned (.bool (decide (p = q))) ∧ Ext W w':=by
 have h:=zpb u v _ _ W hp hq (fun _ h => h)
 have e:decide (ofP p = ofP q) = decide (p = q):=by
  by_cases g:p = q
  ·rw [decide_eq_true g,decide_eq_true (congrArg ofP g)]
  ·rw [decide_eq_false g,decide_eq_false (fun e => g (by rw [← z6t p,e,z6t]))]
 rwa [e] at h
theorem zpe (hp:PV W u p) (fp:Fit k n p) (hk:k ≤ 1000000):Calls Tryz.prog 23 #[u] W fun e w' => e = .returned (.int .i64 (z0t p)) ∧ Ext W w':=by
 have h:=z5x u _ W hp (fun _ h => h) (fp.small hk)
 rwa [fp.plain] at h
theorem zas (hp:PV W u p) (fp:Fit k n p) (hk:k ≤ 1000000) {x:Int} (hx:z1v x):Calls Tryz.prog 29 #[u,.int .i64 x] W fun e w' => e = .returned (.int .i64 (degP p x)) ∧ Ext W w':=by
 have h:=zba u _ x W hp (fun _ h => h) (fp.small hk) hx
 rwa [fp.plain] at h
theorem zc6 (hp:PV W u p) (fp:Fit k n p) (hk:k ≤ 1000000) (hn:n ≤ 1000000000000):Calls Tryz.prog 9 #[u] W fun e w' => ∃ v',e = .returned v' ∧ z06 (New W w') w' v' (ofP (z1w p)) ∧ Ext W w':=by
 have h:=zgp u _ W hp (fun _ h => h) (fp.small hk) (Nat.le_trans fp.len hn)
 rwa [fp.plain] at h
theorem zyk (hp:PV W u p) (fp:Fit k n p) (hk:k ≤ 1000000) (hn:n ≤ 1000000000000) {x d:Int} (hx:1 ≤ x ∧ x ≤ 200) (hd:z1v d):Calls Tryz.prog 28 #[u,.int .i64 x,.int .i64 d] W fun e w' => ∃ v',e = .returned v' ∧ z06 (New W w') w' v' (ofP (z3b p x d)) ∧ Ext W w':=by
 have h:=z6l u _ x d W hp (fun _ h => h) (fp.small hk) (Nat.le_trans fp.len hn) hx hd
 rwa [fp.plain] at h
theorem zlo (hp:PV W u p) (fp:Fit k n p) (hk:k ≤ 1000000):Calls Tryz.prog 20 #[u] W fun e w' => e = .returned (.bool true) ∧ Ext W w':=by
 have h:=z4i u _ W hp (fun _ h => h) (fp.small hk)
 rwa [fp.may] at h
end
end
section
def powP (v:Int) (i:Nat):PZ:=if i = 0 then [(1,[])] else [(1,[(v,(i:Int))])]
theorem zjk (p:PZ) (c:Int) (m:Mono):mulL p [(c,m)] = p.map fun t => (t.1 * c,z0m t.2 m):=by
 unfold mulL
 induction p with
 | nil => rfl
 | cons t r ih => rw [List.flatMap_cons,ih]; rfl
theorem zwr {v:Int} (hv:1 ≤ v ∧ v ≤ 200) {i:Nat} (hi:i ≤ 10000):z0k (powP v i):=by
 intro t ht
 unfold powP at ht
 split at ht
 ·rw [List.mem_singleton.1 ht]; rfl
 ·rw [List.mem_singleton.1 ht]; exact zoj hv (by omega)
theorem zc7 {v:Int} (hv:1 ≤ v ∧ v ≤ 200) {i:Nat} (hi:i ≤ 10000):canP (powP v i):=by
 refine ⟨fun t ht => ⟨?_,zwr hv hi t ht⟩,?_⟩
 ·unfold powP at ht
  split at ht
  ·rw [List.mem_singleton.1 ht]; show (1:Int) ≠ 0; decide
  ·rw [List.mem_singleton.1 ht]; show (1:Int) ≠ 0; decide
 ·unfold powP
  split <;> exact List.pairwise_singleton _ _
theorem zws {v:Int} (hv:1 ≤ v ∧ v ≤ 200) {i:Nat} (hi:i ≤ 10000):Fit 1 1 (powP v i):=by
 refine ⟨zc7 hv hi,fun t ht => ?_,?_⟩
 ·unfold powP at ht
  split at ht
  ·rw [List.mem_singleton.1 ht]; show (1:Int).natAbs < _; decide
  ·rw [List.mem_singleton.1 ht]; show (1:Int).natAbs < _; decide
 ·unfold powP
  split <;> exact Nat.le_refl _
theorem zgx {m:Mono} (h:mayM m = true) {v:Int} (he:ex m v = 0):z0r m v = m:=by
 refine zga (z2z h v) h (fun u => ?_)
 rw [z27]
 by_cases hu:u = v
 ·subst hu; rw [if_pos rfl,he]
 ·rw [if_neg hu]
end
section
open Go.RowKit
end
section
def z17 (p:PZ) (v:Int):PZ:=z3b p v (degP p v)
def z5o (r:PZ) (v d:Int):Option PZ:=z0g (z17 r v) (powP v (degP r v - d).toNat)
def z4m (keep:Bool) (g h:PZ) (v d:Int) (q r:PZ):Option (PZ × PZ) :=
 match z5o r v d with
 | none => none
 | some t => match z0g t g with
  | none => none
  | some l => match z0g h r with
   | none => none
   | some m => if keep then (match z0g h q with
     | none => none
     | some u => some (z1t (u ++ t),z1t (m ++ negP l)))
    else some ([],z1t (m ++ negP l))
def z1e (o:Option Nat) (s:MSt):Int × MSt:=match o with
 | none => (0,s)
 | some _ => s.step
def z10 (o:Option Nat) (s:MSt) (p:PZ):Int × MSt:=match o with
 | none => (0,s)
 | some _ => s.keep (z1q (ofP p) (ofP p).length) (ofP p).length
def mexp (o:Option Nat) (s:MSt):MSt:=match o with
 | none => s
 | some _ => s.refused 8
theorem z7u {o:Option Nat} {s:MSt} {p:PZ} (h:(z10 o s p).1 = 0):(z10 o s p).2 = s:=by
 unfold z10 at h ⊢
 cases o with
 | none => rfl
 | some b =>
  simp only [MSt.keep] at h ⊢
  split
  ·rename_i h1; rw [if_pos h1] at h; simp at h
  ·rename_i h1
   rw [if_neg h1] at h
   split
   ·rename_i h2; rw [if_pos h2] at h; simp at h
   ·rfl
theorem z75 {b:Nat} {s:MSt} {p:PZ} (h:(z10 (some b) s p).1 = 0):(z1q (ofP p) (ofP p).length:Int) ≤ s.li ∧ (p.length:Int) ≤ s.te:=by
 have e:(ofP p).length = p.length:=zej p
 simp only [z10,MSt.keep] at h
 split at h
 ·simp at h
 ·split at h
  ·simp at h
  ·rw [e] at *; omega
structure DRes where
 e:Int
 q:PZ
 r:PZ
 n:Nat
 s:MSt
def runD (o:Option Nat) (keep:Bool) (g h:PZ) (v d:Int):Nat → MSt → PZ → PZ → Nat → DRes
 | 0,s,q,r,n => ⟨0,q,r,n,s⟩
 | k + 1,s,q,r,n =>
  if r = [] ∨ degP r v < d then ⟨0,q,r,n,s⟩ else
  if (z1e o s).1 ≠ 0 then ⟨(z1e o s).1,[],[],0,(z1e o s).2⟩ else
  match z4m keep g h v d q r with
  | none => ⟨8,[],[],0,mexp o (z1e o s).2⟩
  | some x =>
   if (z10 o (z1e o s).2 x.2).1 ≠ 0 then ⟨(z10 o (z1e o s).2 x.2).1,[],[],0,(z10 o (z1e o s).2 x.2).2⟩ else
   if (z10 o (z1e o s).2 x.1).1 ≠ 0 then ⟨(z10 o (z1e o s).2 x.1).1,[],[],0,(z10 o (z1e o s).2 x.1).2⟩ else
   runD o keep g h v d k (z1e o s).2 x.1 x.2 (n + 1)
def z5i (o:Option Nat) (keep:Bool) (g h:PZ) (v d:Int) (B M:Nat):Nat → MSt → PZ → PZ → Prop
 | 0,_,q,r => Fit B M q ∧ Fit B M r
 | k + 1,s,q,r => Fit B M q ∧ Fit B M r ∧ (r ≠ [] → d ≤ degP r v → (z1e o s).1 = 0 → ∀ x,z4m keep g h v d q r = some x →
   (z10 o (z1e o s).2 x.2).1 = 0 → (z10 o (z1e o s).2 x.1).1 = 0 → z5i o keep g h v d B M k (z1e o s).2 x.1 x.2)
theorem z62 {keep:Bool} {g h:PZ} {v d:Int} {q r:PZ} {x:PZ × PZ} (hs:z4m keep g h v d q r = some x) :
  ∃ t l m,z5o r v d = some t ∧ z0g t g = some l ∧ z0g h r = some m ∧ x.2 = z1t (m ++ negP l) ∧ (keep = false → x.1 = []) ∧ (keep = true → ∃ u,z0g h q = some u ∧ x.1 = z1t (u ++ t)):=by
 unfold z4m at hs
 cases ht:z5o r v d with
 | none => rw [ht] at hs; cases hs
 | some t =>
  rw [ht] at hs
  simp only at hs
  cases hl:z0g t g with
  | none => rw [hl] at hs; cases hs
  | some l =>
   rw [hl] at hs
   simp only at hs
   cases hm:z0g h r with
   | none => rw [hm] at hs; cases hs
   | some m =>
    rw [hm] at hs
    simp only at hs
    refine ⟨t,l,m,rfl,hl,rfl,?_⟩
    cases keep with
    | false =>
     simp only [Bool.false_eq_true,if_false] at hs
     cases hs
     exact ⟨rfl,fun _ => rfl,fun h => (by cases h)⟩
    | true =>
     simp only [if_true] at hs
     cases hu:z0g h q with
     | none => rw [hu] at hs; cases hs
     | some u =>
      rw [hu] at hs
      cases hs
      exact ⟨rfl,fun h => (by cases h),fun _ => ⟨u,rfl,rfl⟩⟩
theorem z6g {p:PZ} (h:canP p):canP (negP p):=by
 refine ⟨fun t ht => ?_,?_⟩
 ·obtain ⟨u,hu,rfl⟩:=List.mem_map.1 ht
  have:=(h.1 u hu).1
  exact ⟨by show -u.1 ≠ 0; omega,(h.1 u hu).2⟩
 ·unfold negP
  rw [List.pairwise_map]
  exact h.2
theorem zwt (f:Mono → Int) (p:PZ):ev f (negP p) = - ev f p:=zp5 f p
theorem zjl {p:PZ} {t:Int × Mono} (h:t ∈ negP p):∃ u ∈ p,u.2 = t.2:=by
 obtain ⟨u,hu,rfl⟩:=List.mem_map.1 h
 exact ⟨u,hu,rfl⟩
section
variable {g h q r t l m:PZ} {v d:Int}
theorem z98 {p:PZ} (_hp:canP p) (v e:Int):degP (z3b p v e) v = 0:=zgc (fun _ ht => z8x ht)
theorem zgy {p:PZ} (hp:canP p) {v:Int} (h0:∀ t ∈ p,ex t.2 v = 0):z3b p v 0 = p:=by
 have hm:=hp.may
 clear hp
 unfold z3b
 induction p with
 | nil => rfl
 | cons t r ih =>
  have hr:=ih (fun u hu => h0 u (by simp [hu])) (fun u hu => hm u (by simp [hu]))
  have h1:=h0 t (by simp)
  rw [List.filterMap_cons,show zbu v 0 t = some (t.1,z0r t.2 v) from if_pos h1,hr,zgx (hm t (by simp)) h1]
theorem zpf {v:Int} (_hv:1 ≤ v ∧ v ≤ 200) {i:Nat} (_hi:i ≤ 10000):degP (powP v i) v = (i:Int):=by
 unfold powP
 split
 ·rename_i h0
  subst h0
  exact zgc (fun t ht => by rw [List.mem_singleton.1 ht]; rfl)
 ·refine Int.le_antisymm (zbv (by omega) (fun t ht => by rw [List.mem_singleton.1 ht,zgd,if_pos rfl]; exact Int.le_refl _)) ?_
  have:=z1u (p:=[(1,[(v,(i:Int))])]) (t:=(1,[(v,(i:Int))])) (by simp) v
  rwa [zgd,if_pos rfl] at this
theorem zwu {v:Int} (_hv:1 ≤ v ∧ v ≤ 200) {i:Nat} (_hi:i ≤ 10000):z3b (powP v i) v (i:Int) = [(1,[])]:=by
 unfold powP
 split
 ·rename_i h0
  subst h0
  rfl
 ·unfold z3b
  rw [List.filterMap_cons,show zbu v (i:Int) (1,[(v,(i:Int))]) = some (1,z0r [(v,(i:Int))] v) from if_pos (by rw [zgd,if_pos rfl])]
  rw [show z0r [(v,(i:Int))] v = [] by unfold z0r; simp]
  rfl
theorem zt0 {p:PZ} (hp:zek p):mulL p [(1,[])] = p:=by
 rw [zjk]
 induction p with
 | nil => rfl
 | cons t r ih =>
  rw [List.map_cons,ih (fun u hu => hp u (by simp [hu])),z72 (hp t (by simp)),Int.mul_one]
theorem zt1 (hr:canP r) (hr0:r ≠ []) (hv:1 ≤ v ∧ v ≤ 200) (hd:0 ≤ d) (hdr:d ≤ degP r v) (ht:z5o r v d = some t) :
  canP t ∧ t ≠ [] ∧ degP t v = degP r v - d ∧ Eqv (z3b t v (degP r v - d)) (z17 r v):=by
 have hrg:=z18 hr.may v
 obtain ⟨i,hi⟩:∃ i:Nat,i = (degP r v - d).toNat:=⟨_,rfl⟩
 have hi2:(i:Int) = degP r v - d:=by omega
 have hi3:i ≤ 10000:=by omega
 unfold z5o at ht
 rw [← hi] at ht
 have hc:=z2h hr v (degP r v)
 have hp:=zc7 hv hi3
 have hc0:=z6e hr.may hr0 v
 have hp0:powP v i ≠ []:=by unfold powP; split <;> simp
 have h1:=zc5 hc hp hc0 hp0 ht v
 rw [z98 hr,zpf hv hi3,Int.zero_add] at h1
 refine ⟨z35 hc hp ht,zsv hc hp hc0 hp0 ht,by omega,?_⟩
 have h2:=zem hc hp ht v
 rw [z98 hr,zpf hv hi3,Int.zero_add,zwu hv hi3,zgy hc (fun _ h => z8x h),zt0 (z73 hc.may)] at h2
 rw [← hi2]
 exact h2
theorem zt2 (hg:canP g) (hr:canP r) (hr0:r ≠ []) (hv:1 ≤ v ∧ v ≤ 200) (hd1:1 ≤ degP g v) (hdr:degP g v ≤ degP r v)
  (ht:z5o r v (degP g v) = some t) (hl:z0g t g = some l) (hm:z0g (z17 g v) r = some m):canP (z1t (m ++ negP l)) ∧ degP (z1t (m ++ negP l)) v < degP r v:=by
 obtain ⟨ct,t0,dt,et⟩:=zt1 hr hr0 hv (by omega) hdr ht
 have hg0:g ≠ []:=fun e => by rw [e] at hd1; simp [degP] at hd1
 have ch:=z2h hg v (degP g v)
 have h0:=z6e hg.may hg0 v
 have cl:=z35 ct hg hl
 have cm:=z35 ch hr hm
 have hmay:=z3j cm.may (z6g cl).may
 have hcan:=z3n hmay
 refine ⟨hcan,zog (by omega) (fun x hx => ?_)⟩
 have hle:ex x.2 v ≤ degP r v:=by
  obtain ⟨u,hu,e⟩:=zar hmay hx
  rw [← e]
  rcases List.mem_append.1 hu with h1 | h1
  ·have:=z1u h1 v
   rw [zc5 ch hr h0 hr0 hm v,z98 hg,Int.zero_add] at this
   exact this
  ·obtain ⟨y,hy,e2⟩:=zjl h1
   rw [← e2]
   have:=z1u hy v
   rw [zc5 ct hg t0 hg0 hl v,dt] at this
   omega
 rcases Int.lt_or_eq_of_le hle with h1 | h1
 ·exact h1
 ·exfalso
  have e1:=zem ch hr hm v
  have e2:=zem ct hg hl v
  rw [z98 hg,Int.zero_add,zgy ch (fun _ h => z8x h)] at e1
  rw [dt,show degP r v - degP g v + degP g v = degP r v by omega] at e2
  have e3:Eqv (z3b (z1t (m ++ negP l)) v (degP r v)) []:=fun f => by
   rw [(zjj (z7r hmay) v _) f,z74,z95,zwt,← z74,← z74,e1,e2,(Eqv.mul et (Eqv.refl _)) f,zgu (z73 ch.may) (z73 (z2h hr v _).may)]
   show _ = (0:Int)
   unfold z17
   omega
  have e4:=zyh (z2h hcan v (degP r v)) z2u e3
  have e5:(x.1,z0r x.2 v) ∈ z3b (z1t (m ++ negP l)) v (degP r v):=List.mem_filterMap.2 ⟨x,hx,if_pos h1⟩
  rw [e4] at e5
  simp at e5
end
theorem zgz {keep:Bool} {g q r:PZ} {v:Int} {x:PZ × PZ} (hg:canP g) (hr:canP r) (hr0:r ≠ []) (hv:1 ≤ v ∧ v ≤ 200) (hd1:1 ≤ degP g v) (hdr:degP g v ≤ degP r v) (hs:z4m keep g (z17 g v) v (degP g v) q r = some x) :
  canP x.2 ∧ degP x.2 v < degP r v:=by
 obtain ⟨t,l,m,ht,hl,hm,e,-,-⟩:=z62 hs
 rw [e]
 exact zt2 hg hr hr0 hv hd1 hdr ht hl hm
end
section
def hpow (h:PZ):Nat → PZ
 | 0 => [(1,[])]
 | n + 1 => mulL (hpow h n) h
theorem z7v:canP [((1:Int),([]:Mono))]:=⟨fun t ht => by rw [List.mem_singleton.1 ht]; exact ⟨by decide,rfl⟩,List.pairwise_singleton _ _⟩
theorem zc8 {r t:PZ} {v d:Int} (hr:canP r) (hv:1 ≤ v ∧ v ≤ 200) (hd:0 ≤ d) (ht:z5o r v d = some t):canP t:=by
 have hrg:=z18 hr.may v
 exact z35 (z2h hr v _) (zc7 hv (by omega)) ht
section
variable {g h f q r:PZ} {v d:Int} {x:PZ × PZ}
theorem zpg {keep:Bool} (hg:canP g) (hh:canP h) (hq:canP q) (hr:canP r) (hv:1 ≤ v ∧ v ≤ 200) (hd:0 ≤ d) (hs:z4m keep g h v d q r = some x):canP x.1 ∧ canP x.2:=by
 obtain ⟨t,l,m,ht,hl,hm,e2,e3,e4⟩:=z62 hs
 have ct:=zc8 hr hv hd ht
 have cl:=z35 ct hg hl
 have cm:=z35 hh hr hm
 refine ⟨?_,by rw [e2]; exact z3n (z3j cm.may (z6g cl).may)⟩
 cases keep with
 | false => rw [e3 rfl]; exact z2u
 | true =>
  obtain ⟨u,hu,e⟩:=e4 rfl
  rw [e]
  exact z3n (z3j (z35 hh hq hu).may ct.may)
/-! Exponents -/
def exB (E:Int) (p:PZ):Prop:=∀ t ∈ p,∀ u,ex t.2 u ≤ E
end
section
variable {g h f q r p:PZ} {v d:Int} {x:PZ × PZ} {E G R:Int}
theorem exB.le (hp:exB E p) (h:E ≤ R):exB R p:=fun t ht u => Int.le_trans (hp t ht u) h
theorem zid (E:Int):exB E []:=fun t ht => by simp at ht
theorem exB.deg (hp:exB E p) (hE:0 ≤ E) (v:Int):degP p v ≤ E:=zbv hE (fun t ht => hp t ht v)
theorem exB.mul_may (hp:exB E p) (hq:exB G q) (mp:z0k p) (mq:z0k q) (hE:E + G ≤ 10000):z0k (mulL p q):=fun t ht => by
 obtain ⟨a,ha,b,hb,rfl⟩:=z7t ht
 refine (z8y (mp a ha) (mq b hb)).2 (fun u => ?_)
 have:=hp a ha u
 have:=hq b hb u
 omega
theorem exB.norm (hp:exB E p) (mp:z0k p):exB E (z1t p):=fun t ht u => by
 obtain ⟨y,hy,e⟩:=zar mp ht
 rw [← e]
 exact hp y hy u
theorem exB.mul (hp:exB E p) (hq:exB G q) (mp:z0k p) (mq:z0k q):exB (E + G) (mulL p q):=fun t ht u => by
 obtain ⟨a,ha,b,hb,rfl⟩:=z7t ht
 show ex (z0m a.2 b.2) u ≤ _
 rw [z2k (mp a ha) (mq b hb)]
 have:=hp a ha u
 have:=hq b hb u
 omega
theorem exB.append (hp:exB E p) (hq:exB E q):exB E (p ++ q):=fun t ht => by
 rcases List.mem_append.1 ht with h | h
 ·exact hp t h
 ·exact hq t h
theorem exB.neg (hp:exB E p):exB E (negP p):=fun t ht u => by
 obtain ⟨y,hy,e⟩:=zjl ht
 rw [← e]
 exact hp y hy u
theorem exB.coef (hp:exB E p) (hE:0 ≤ E) (v e:Int):exB E (z3b p v e):=fun t ht u => by
 obtain ⟨y,hy,-,rfl⟩:=z8w ht
 show ex (z0r y.2 v) u ≤ E
 rw [z27]
 split
 ·exact hE
 ·exact hp y hy u
theorem exB.times (hp:exB E p) (hq:exB G q) (cp:canP p) (cq:canP q) (hE:E + G ≤ 10000):∃ c,z0g p q = some c ∧ canP c ∧ exB (E + G) c ∧ Eqv c (mulL p q) ∧ c = z1t (mulL p q):=by
 have hm:=hp.mul_may hq cp.may cq.may hE
 exact ⟨_,z7s cp.may cq.may hm,z3n hm,(hp.mul hq cp.may cq.may).norm hm,z7r hm,rfl⟩
theorem zwv (hr:canP r) (er:exB R r) (hR:0 ≤ R) (hR2:R ≤ 10000) (hv:1 ≤ v ∧ v ≤ 200) (hd:0 ≤ d):∃ t,z5o r v d = some t ∧ canP t ∧ exB R t:=by
 have hrg:=z18 hr.may v
 have hdr:=er.deg hR v
 have hc:=z2h hr v (degP r v)
 have hp:=zc7 hv (i:=(degP r v - d).toNat) (by omega)
 have hm:z0k (mulL (z17 r v) (powP v (degP r v - d).toNat)):=fun t ht => by
  obtain ⟨a,ha,b,hb,rfl⟩:=z7t ht
  refine (z8y (hc.1 a ha).2 (hp.1 b hb).2).2 (fun u => ?_)
  have h1:=(er.coef hR v (degP r v)) a ha u
  unfold powP at hb
  split at hb
  ·rw [List.mem_singleton.1 hb]
   show ex a.2 u + ex [] u ≤ _
   simp only [ex]
   omega
  ·rw [List.mem_singleton.1 hb,zgd]
   by_cases hu:v = u
   ·subst hu
    rw [if_pos rfl,z8x ha]
    omega
   ·rw [if_neg hu]
    omega
 refine ⟨_,z7s hc.may hp.may hm,z3n hm,fun t ht u => ?_⟩
 obtain ⟨y,hy,e⟩:=zar hm ht
 obtain ⟨a,ha,b,hb,rfl⟩:=z7t hy
 rw [← e]
 show ex (z0m a.2 b.2) u ≤ R
 rw [z2k (hc.1 a ha).2 (hp.1 b hb).2]
 have h1:=(er.coef hR v (degP r v)) a ha u
 unfold powP at hb
 split at hb
 ·rw [List.mem_singleton.1 hb]
  show ex a.2 u + ex [] u ≤ _
  simp only [ex]
  omega
 ·rw [List.mem_singleton.1 hb,zgd]
  by_cases hu:v = u
  ·subst hu
   rw [if_pos rfl,z8x ha]
   omega
  ·rw [if_neg hu]
   omega
theorem zt3 (keep:Bool) (hg:canP g) (hh:canP h) (hq:canP q) (hr:canP r) (eg:exB G g) (eh:exB G h) (eq:exB R q) (er:exB R r) (hG:0 ≤ G) (hR:0 ≤ R) (hRG:R + G ≤ 10000) (hv:1 ≤ v ∧ v ≤ 200) (hd:0 ≤ d) :
  ∃ x,z4m keep g h v d q r = some x ∧ exB (R + G) x.1 ∧ exB (R + G) x.2:=by
 obtain ⟨t,ht,ct,et⟩:=zwv hr er hR (by omega) hv hd
 obtain ⟨l,hl,cl,el,-⟩:=et.times eg ct hg (by omega)
 obtain ⟨m,hm,cm,em,-⟩:=eh.times er hh hr (by omega)
 obtain ⟨u,hu,cu,eu,-⟩:=eh.times eq hh hq (by omega)
 have e2:exB (R + G) (z1t (m ++ negP l)):=((em.le (by omega)).append el.neg).norm (z3j cm.may (z6g cl).may)
 unfold z4m
 rw [ht]
 simp only
 rw [hl]
 simp only
 rw [hm]
 simp only
 cases keep with
 | false => exact ⟨_,rfl,zid _,e2⟩
 | true =>
  simp only [if_true]
  rw [hu]
  exact ⟨_,rfl,((eu.le (by omega)).append (et.le (by omega))).norm (z3j cu.may ct.may),e2⟩
/-! Sizes -/
theorem Fit.neg {k n:Nat} (h:Fit k n p):Fit k n (negP p):=⟨z6g h.1,fun t ht => by
 obtain ⟨u,hu,rfl⟩:=List.mem_map.1 ht
 have:=h.2.1 u hu
 show (-u.1).natAbs < _
 rwa [Int.natAbs_neg],by rw [z3u]; exact h.2.2⟩
theorem z99 {t:PZ} {K L:Nat} (fr:Fit K L r) (hL:L ≤ 1000000000000) (hv:1 ≤ v ∧ v ≤ 200) (hd:0 ≤ d) (ht:z5o r v d = some t):Fit (K + 3) L t:=by
 have hrg:=z18 fr.can.may v
 have h:=(fr.coef v (degP r v)).times (zws hv (i:=(degP r v - d).toNat) (by omega)) ht (by omega)
 rw [Nat.mul_one] at h
 exact h
theorem zph {keep:Bool} {A T K L:Nat} (fg:Fit A T g) (fh:Fit A T h) (fq:Fit K L q) (fr:Fit K L r) (hT:1 ≤ T) (hL:2 * T * L ≤ 1000000000000) (hv:1 ≤ v ∧ v ≤ 200) (hd:0 ≤ d) (hs:z4m keep g h v d q r = some x) :
  Fit (K + A + 7) (2 * T * L) x.1 ∧ Fit (K + A + 7) (2 * T * L) x.2:=by
 obtain ⟨t,l,m,ht,hl,hm,e2,e3,e4⟩:=z62 hs
 have h1:L ≤ T * L:=Nat.le_mul_of_pos_left L hT
 have h2:2 * T * L = T * L + T * L:=by rw [Nat.mul_assoc]; omega
 have h3:L * T = T * L:=Nat.mul_comm _ _
 have ft:=z99 fr (by omega) hv hd ht
 have fl:=ft.times fg hl (by omega)
 have fm:=fh.times fr hm (by omega)
 have f2:=(fm.mono (l:=K + A + 5) (m:=T * L) (by omega) (by omega)).add (fl.neg.mono (l:=K + A + 5) (m:=T * L) (by omega) (by omega)) (by omega)
 refine ⟨?_,by rw [e2]; exact f2.mono (by omega) (by omega)⟩
 cases keep with
 | false => rw [e3 rfl]; exact z8h.mono (by omega) (by omega)
 | true =>
  obtain ⟨u,hu,e⟩:=e4 rfl
  have fu:=fh.times fq hu (by omega)
  rw [e]
  exact ((fu.mono (l:=K + A + 5) (m:=T * L) (by omega) (by omega)).add (ft.mono (l:=K + A + 5) (m:=T * L) (by omega) (by omega)) (by omega)).mono (by omega) (by omega)
theorem zad {o:Option Nat} {keep:Bool} {A T B M:Nat} (fg:Fit A T g) (fh:Fit A T (z17 g v)) (hT:1 ≤ T) (hv:1 ≤ v ∧ v ≤ 200) (hd1:1 ≤ degP g v) (hM:M ≤ 1000000000000) :
  ∀ (k j:Nat) (K L:Nat) (s:MSt) (q r:PZ),Fit K L q → Fit K L r → (r ≠ [] → degP r v < degP g v + (j:Int)) → K + j * (A + 7) ≤ B → L * (2 * T) ^ j ≤ M → z5i o keep g (z17 g v) v (degP g v) B M k s q r:=by
 intro k
 induction k with
 | zero =>
  intro j K L s q r fq fr _ hK hL
  have hp:1 ≤ (2 * T) ^ j:=Nat.one_le_iff_ne_zero.2 (Nat.pos_iff_ne_zero.1 (Nat.pow_pos (by omega)))
  have hLM:L ≤ M:=Nat.le_trans (Nat.le_mul_of_pos_right L hp) hL
  exact ⟨fq.mono (by omega) hLM,fr.mono (by omega) hLM⟩
 | succ k ih =>
  intro j K L s q r fq fr hj hK hL
  have hp:1 ≤ (2 * T) ^ j:=Nat.one_le_iff_ne_zero.2 (Nat.pos_iff_ne_zero.1 (Nat.pow_pos (by omega)))
  have hLM:L ≤ M:=Nat.le_trans (Nat.le_mul_of_pos_right L hp) hL
  refine ⟨fq.mono (by omega) hLM,fr.mono (by omega) hLM,fun hr0 hdr _ x hs _ _ => ?_⟩
  have h1:=hj hr0
  obtain ⟨i,rfl⟩:∃ i,j = i + 1:=⟨j - 1,by omega⟩
  have hq:1 ≤ (2 * T) ^ i:=Nat.one_le_iff_ne_zero.2 (Nat.pos_iff_ne_zero.1 (Nat.pow_pos (by omega)))
  have e1:L * (2 * T) ^ (i + 1) = 2 * T * L * (2 * T) ^ i:=by rw [Nat.pow_succ,Nat.mul_comm ((2 * T) ^ i),← Nat.mul_assoc,Nat.mul_comm L]
  have hb:2 * T * L ≤ M:=Nat.le_trans (Nat.le_mul_of_pos_right _ hq) (e1 ▸ hL)
  obtain ⟨f1,f2⟩:=zph fg fh fq fr hT (by omega) hv (by omega) hs
  have hdg:=(zgz fg.can fr.can hr0 hv hd1 hdr hs).2
  refine ih i _ _ _ _ _ f1 f2 (fun _ => by omega) ?_ (by rw [← e1]; exact hL)
  rw [Nat.add_mul,Nat.one_mul] at hK
  omega
end
end
section
open Go.RowKit
section
variable {p q c:PZ} {k l n m:Nat}
end
section
variable {W:World} {u v:Value} {p q:PZ} {k l n m:Nat}
end
end
section
open Go.RowKit
def mval (o:Option Nat):Value:=.pointer (o.map fun b => ⟨b,0,none⟩)
def MV (W:World) (o:Option Nat) (s:MSt):Prop:=∀ b,o = some b → MeterAt W b s ∧ s.Ok
abbrev NB (o:Option Nat) (W:World):Nat → Prop:=fun k => k < W.heap.size ∧ some k ≠ o
abbrev PM (o:Option Nat) (W:World) (v:Value) (p:PZ):Prop:=z06 (NB o W) W v (ofP p)
abbrev PMN (N:Nat) (o:Option Nat) (W:World) (v:Value) (p:PZ):Prop:=z06 (fun k => N ≤ k ∧ NB o W k) W v (ofP p)
section
variable {o:Option Nat} {W W':World} {v:Value} {p:PZ} {s:MSt}
theorem zpi (g:W.grownBy W' o):∀ k,NB o W k → NB o W' k:=fun _ h => ⟨Nat.lt_of_lt_of_le h.1 g.size,h.2⟩
theorem zie (g:W.grownBy W' o):Kept (NB o W) W W':=fun k h => g.block k h.1 h.2
theorem PM.pv (h:PM o W v p):PV W v p:=h.to (Kept.refl _ _) (fun _ h => h.1)
theorem PMN.pm {N:Nat} (h:PMN N o W v p):PM o W v p:=h.to (Kept.refl _ _) (fun _ h => h.2)
theorem PMN.pv {N:Nat} (h:PMN N o W v p):PV W v p:=h.to (Kept.refl _ _) (fun _ h => h.2.1)
theorem PM.on (h:PM o W v p) (g:W.grownBy W' o):PM o W' v p:=h.to (zie g) (zpi g)
theorem PMN.on {N:Nat} (h:PMN N o W v p) (g:W.grownBy W' o):PMN N o W' v p:=h.to (fun k hk => zie g k hk.2) (fun k hk => ⟨hk.1,zpi g k hk.2⟩)
theorem PMN.ext {N:Nat} (h:PMN N o W v p) (g:Ext W W'):PMN N o W' v p:=h.on (z11 g o)
theorem MV.block (h:MV W o s) {b:Nat} (hb:o = some b):b < W.heap.size:=z0s (h b hb).1.c0
theorem zpj {A:World} (h:∀ b,o = some b → b < A.heap.size):∀ k,New A W' k → NB o W' k:=fun k hk => ⟨hk.2,fun e => by have:=h k e.symm; have:=hk.1; omega⟩
theorem MV.ext (h:MV W o s) (g:Ext W W'):MV W' o s:=fun b hb => ⟨(h b hb).1.kept g (h.block hb),(h b hb).2⟩
theorem MV.none (W:World) (s:MSt):MV W none s:=fun _ h => by cases h
theorem z9a {A B:World} {r:Option Nat} (g:A.grownBy B r) (h:∀ b,o = some b → b < A.heap.size):∀ b,o = some b → b < B.heap.size:=fun b hb => Nat.lt_of_lt_of_le (h b hb) g.size
theorem z7w {s:MSt} (h:s.Ok) (e n:Int):(s.refuse e n).Ok:=by
 unfold MSt.refuse
 split
 ·exact ⟨h.f0,h.f1,h.l0,h.l1,h.t0,h.t1,h.p0,h.p1,h.s0,h.s1,h.c0,h.c1⟩
 ·exact h
theorem zt4 {s:MSt} (h:s.Ok):s.step.2.Ok:=by
 unfold MSt.step
 split
 ·rename_i hlt
  exact ⟨h.f0,h.f1,h.l0,h.l1,h.t0,h.t1,h.p0,h.p1,by show 0 ≤ s.st + 1; have:=h.s0; omega,by show s.st + 1 ≤ s.fu; omega,h.c0,h.c1⟩
 ·exact z7w h _ _
theorem zt5 {s:MSt} (h:s.Ok) (n len:Nat):(s.keep n len).2.Ok:=by
 unfold MSt.keep
 split
 ·exact z7w h _ _
 ·split
  ·exact z7w h _ _
  ·exact h
theorem zif {s:MSt} (h:s.Ok) (e:Int):(s.refused e).Ok:=by
 unfold MSt.refused
 split
 ·exact z7w h _ _
 ·exact h
def OMet (W:World) (o:Option Nat) (r:Int) (s:MSt):Ending → World → Prop:=fun e W' => e = .returned (.int .i64 r) ∧ MV W' o s ∧ W.grownBy W' o
theorem zyl (h:MV W o s):Calls Tryz.prog 120 #[mval o] W (OMet W o (z1e o s).1 (z1e o s).2):=by
 cases o with
 | none => exact (zs8 W).mono (by rintro e w' ⟨rfl,rfl⟩; exact ⟨rfl,MV.none _ _,z51 _ _⟩)
 | some b => exact (zs6 b s W (h b rfl).1 (h b rfl).2).mono (by rintro e w' ⟨rfl,k1,k2⟩; exact ⟨rfl,fun c hc => by cases hc; exact ⟨k1,zt4 (h b rfl).2⟩,k2⟩)
theorem zv3 (h:MV W o s) (hp:PM o W v p):Calls Tryz.prog 78 #[mval o,v] W (OMet W o (z10 o s p).1 (z10 o s p).2):=by
 cases o with
 | none => exact (zs9 v W).mono (by rintro e w' ⟨rfl,rfl⟩; exact ⟨rfl,MV.none _ _,z51 _ _⟩)
 | some b => exact (zs7 b s v (ofP p) W (h b rfl).1 hp (fun _ h => h.1)).mono (by rintro e w' ⟨rfl,k1,k2⟩; exact ⟨rfl,fun c hc => by cases hc; exact ⟨k1,zt5 (h b rfl).2 _ _⟩,k2⟩)
theorem zt6 (h:MV W o s):Calls Tryz.prog 75 #[mval o,.int .i64 8] W (OMet W o 8 (mexp o s)):=by
 cases o with
 | none => exact (zl4 8 W).mono (by rintro e w' ⟨rfl,rfl⟩; exact ⟨rfl,MV.none _ _,z51 _ _⟩)
 | some b => exact (zl3 b s 8 W (h b rfl).1).mono (by rintro e w' ⟨rfl,k1,k2⟩; exact ⟨rfl,fun c hc => by cases hc; exact ⟨k1,zif (h b rfl).2 _⟩,k2⟩)
/-! The document's -/
end
end
section
open Go.RowKit
theorem zh0 {w:World} {vm vo:Value} {t:RTerm} (h1:U32s (Old w) w vm t.c.mag) (h2:Pows (Old w) w vo t.m) (T:TypeId) :
  z06 (Old (w.alloc (.cells #[.bool t.c.neg,vm,vo] T))) (w.alloc (.cells #[.bool t.c.neg,vm,vo] T)) (.slice (some ⟨w.heap.size,0,none⟩) 1 1) [t]:=by
 have hx:Ext w (w.alloc (.cells #[.bool t.c.neg,vm,vo] T)):=Ext.alloc (Ext.refl w) _
 refine ⟨w.heap.size,0,⟨_,1,rfl,Nat.le_refl _,by decide,fun _ => rfl,fun _ => by show w.heap.size < (w.alloc _).heap.size; rw [z02]; omega⟩,fun j u hj => ?_⟩
 have hj2:=z05 hj
 simp only [List.length_cons,List.length_nil] at hj2
 match j,hj with
 | 0,hj =>
  obtain rfl:t = u:=by simpa using hj
  exact ⟨vm,vo,z04 _ _ _ rfl rfl,z04 _ _ _ rfl rfl,z04 _ _ _ rfl rfl,h1.to (Kept.ext hx (fun _ h => h)) (fun k h => Nat.lt_of_lt_of_le h hx.size),h2.to (Kept.ext hx (fun _ h => h)) (fun k h => Nat.lt_of_lt_of_le h hx.size)⟩
 | j + 1,_ => omega
def oneZ (c:Int) (m:Mono):PZ:=if c = 0 then [] else [(c,m)]
theorem zjm (c:Int) (m:Mono):z1t [(c,m)] = oneZ c m:=by
 unfold oneZ
 show putP [] c m = _
 rfl
theorem zt7 {c:Int} {m:Mono} (h:mayM m = true):canP (oneZ c m):=by
 unfold oneZ
 split
 ·exact z2u
 ·rename_i h0
  exact ⟨fun t ht => by rw [List.mem_singleton.1 ht]; exact ⟨h0,h⟩,List.pairwise_singleton _ _⟩
theorem zww {c:Int} {m:Mono} {k:Nat} (h:mayM m = true) (hk:lenI c ≤ k):Fit k 1 (oneZ c m):=by
 refine ⟨zt7 h,fun t ht => ?_,?_⟩
 ·unfold oneZ at ht
  split at ht
  ·simp at ht
  ·rw [List.mem_singleton.1 ht]; exact z2y hk (Nat.le_refl _)
 ·unfold oneZ
  split <;> simp
theorem zpk {W:World} {u vc vm:Value} {p:PZ} {c:Int} {m:Mono} {k n l:Nat} (hp:PV W u p) (hc:IntV (Old W) W vc (ofI c)) (hm:Pows (Old W) W vm m) (fp:Fit k n p) (hmm:mayM m = true) (hcl:lenI c ≤ l) (h24:k < 24 ∨ l < 24) (hk:k ≤ 1000000) (hl:l ≤ 1000000) (hn:n ≤ 1000000000000) :
  Calls Tryz.prog 149 #[u,vc,vm] W (z61 W (z0g p (oneZ c m))):=by
 have hnot:∀ (x:Bool) (w:World),(Op.unary .not (.bool x)).run Tryz.prog w = .ok (.bool (!x)) w:=fun _ _ => rfl
 obtain ⟨vz,rfl,hz⟩:=hc
 have HP:=hid hp
 have HZ:=hid hz
 have HM:=hid hm
 have CM:=fun (Y:World) (hY:Ext W Y) => z32 (S:=Old W) vm m Y (hm.ext hY (fun _ h => h)) (fun k h => Nat.lt_of_lt_of_le h hY.size)
 simp only [hmm] at CM
 have HCM:=hid CM
 have f1:=zww (m:=m) hmm hcl
 have CC:=hid (fun (Y:World) (hY:Ext W Y) => z5h (S:=Old (Y.alloc (.cells #[.bool (ofI c).neg,vz,vm] 50))) (.slice (some ⟨Y.heap.size,0,none⟩) 1 1) [⟨ofI c,m⟩] (Y.alloc (.cells #[.bool (ofI c).neg,vz,vm] 50)) 1000000
  (zh0 (t:=⟨ofI c,m⟩) ((hz.ext hY (fun _ h => h)).to (Kept.refl _ _) (fun k h => Nat.lt_of_lt_of_le h hY.size)) ((hm.ext hY (fun _ h => h)).to (Kept.refl _ _) (fun k h => Nat.lt_of_lt_of_le h hY.size)) 50) (fun _ h => h) (fun t ht => by rw [List.mem_singleton.1 ht]; exact hmm) (fun t ht => by rw [List.mem_singleton.1 ht]; show (ofI c).mag.length ≤ _; rw [z5m]; omega) (by decide) (by simp))
 have e1:toP [⟨ofI c,m⟩] = [(c,m)]:=by unfold toP; simp [z0p]
 simp only [e1,zjm] at CC
 have CT:=hid (fun (Y:World) (u2:Value) (hY:Ext W Y) (hu:PV Y u2 (oneZ c m)) => zen (hp.on hY) hu fp f1 h24 hk hl (by omega))
 obtain ⟨ap,cp,rfl⟩:=hp.form
 obtain ⟨az,cz,rfl⟩:=hz.form
 obtain ⟨am,cm,rfl⟩:=hm.form
 obtain ⟨np,hnp⟩:∃ n,n = (ofP p).length:=⟨_,rfl⟩
 obtain ⟨nz,hnz⟩:∃ n,n = (ofI c).mag.length:=⟨_,rfl⟩
 obtain ⟨nm,hnm⟩:∃ n,n = m.length:=⟨_,rfl⟩
 obtain ⟨ng,hng⟩:∃ n,n = (ofI c).neg:=⟨_,rfl⟩
 rw [← hnp] at CT ⊢
 rw [← hnz,← hng] at CC ⊢
 rw [← hnm] at CC HCM ⊢
 generalize z0g p (oneZ c m) = o at *
 have HK:=hid (Ext.alloc (Ext.refl W) (.cells #[.bool ng,.slice az nz cz] 30))
 clear hp hz hm CM hmm hcl f1 e1 hnp hnz hnm hng
 go_enter Tryz.func149,Tryz.ntmps149
 go_wp2_with fail
 with_reducible refine (HCM.out _ HK.out).mono ?_
 rintro e w1 ⟨rfl,hx1⟩
 have k0:=hx1.new_cell (i:=0) rfl
 have k1:=hx1.new_cell (i:=1) rfl
 have HX1:=hid (HK.out.trans hx1)
 clear hx1
 go_wp2_with fail
 with_reducible refine (CC.out _ HX1.out).mono ?_
 rintro e w2 ⟨v2,rfl,hp2,hx2⟩
 have HX2:=hid ((HX1.out.alloc _).trans hx2)
 have CT2:=hid (CT.out w2 v2 HX2.out (hp2.to (Kept.refl _ _) New.lt))
 obtain ⟨a2,c2,rfl⟩:=hp2.form
 clear hp2 hx2 k0 k1
 go_wp2_with fail
 with_reducible refine CT2.out.mono ?_
 intro e w3 h3
 cases o with
 | none =>
  obtain ⟨rfl,hx3⟩:=h3
  have HX3:=hid (HX2.out.trans hx3)
  clear hx3
  go_wp2
  all_goals
   go_ret2
   exact ⟨rfl,HX3.out⟩
 | some x =>
  obtain ⟨v3,rfl,hp3,hx3⟩:=h3
  have HX3:=hid (HX2.out.trans hx3)
  have HP3:=hid (hp3.to (S':=New W w3) (Kept.refl _ _) (fun k h => ⟨Nat.le_trans HX2.out.size h.1,h.2⟩))
  clear hp3 hx3
  go_wp2
  all_goals
   go_ret2
   exact ⟨_,rfl,HP3.out,HX3.out⟩
end
section
open Go.RowKit
section
variable {W:World} {u v:Value} {p q:PZ} {k l n m:Nat}
theorem zv4 (hp:PV W u p) (fp:Fit k n p) (hk:k ≤ 1000000) (hn:n ≤ 1000000000000) {x:Int} (hx:1 ≤ x ∧ x ≤ 200) :
  Calls Tryz.prog 119 #[u,.int .i64 x] W fun e w' => ∃ v',e = .returned v' ∧ z06 (New W w') w' v' (ofP (z17 p x)) ∧ Ext W w':=by
 have HX0:=hid (Ext.refl W)
 have HD:=hid (zas hp fp hk (x:=x) (by unfold z1v; omega))
 have hr:=z18 fp.can.may x
 have HC:=hid (fun (Y:World) (hY:Ext W Y) => zyk (z06.on hp hY) fp hk hn hx (d:=degP p x) (by unfold z1v; omega))
 obtain ⟨a,c,rfl⟩:=hp.form
 obtain ⟨np,hnp⟩:∃ n,n = (ofP p).length:=⟨_,rfl⟩
 rw [← hnp] at HD HC ⊢
 clear hp fp hnp
 go_enter Tryz.func119,Tryz.ntmps119
 go_wp2_with fail
 with_reducible refine HD.out.mono ?_
 rintro e w1 ⟨rfl,hx1⟩
 have HX1:=hid hx1
 have HC1:=hid (HC.out w1 hx1)
 clear hx1
 go_wp2_with fail
 with_reducible refine HC1.out.mono ?_
 rintro e w2 ⟨v2,rfl,hp2,hx2⟩
 have HX2:=hid (HX1.out.trans hx2)
 have HP2:=hid (hp2.to (S':=New W w2) (Kept.refl _ _) (fun k h => ⟨Nat.le_trans HX1.out.size h.1,h.2⟩))
 clear hp2 hx2
 go_wp2
 all_goals
  go_ret
  exact ⟨_,rfl,HP2.out,HX2.out⟩
def powM (x:Int) (i:Nat):Mono:=if i = 0 then [] else [(x,(i:Int))]
theorem zt8 (x:Int) (i:Nat):oneZ 1 (powM x i) = powP x i:=by
 unfold oneZ powM powP
 rw [if_neg (by decide)]
 split <;> rfl
theorem zt9 {x:Int} {i:Nat} (hx:1 ≤ x ∧ x ≤ 200) (hi:i ≤ 10000):mayM (powM x i) = true:=by
 unfold powM
 split
 ·rfl
 ·exact zoj hx (by omega)
theorem zwx {x:Int} {i:Nat} (hx:1 ≤ x ∧ x ≤ 200) (hi:i ≤ 10000) :
  Calls Tryz.prog 150 #[.int .i64 x,.int .i64 (i:Nat)] W fun e w' => ∃ v',e = .returned v' ∧ Pows (New W w') w' v' (powM x i) ∧ Ext W w':=by
 unfold powM
 by_cases h0:i = 0
 ·subst h0
  go_enter Tryz.func150,Tryz.ntmps150
  go_wp2
  all_goals
   go_ret
   exact ⟨_,rfl,Pows.empty _ _ _,Ext.refl _⟩
 ·rw [if_neg h0]
  have q0:((i:Int) == 0) = false:=by rw [beq_eq_false_iff_ne]; omega
  have HI:=hid (show z1v x ∧ z1v (i:Int) from ⟨by unfold z1v; omega,by unfold z1v; omega⟩)
  clear hx hi
  go_enter Tryz.func150,Tryz.ntmps150
  go_wp2
  all_goals
   go_ret
   refine ⟨_,rfl,⟨W.heap.size,0,⟨_,1,rfl,Nat.le_refl _,by decide,fun _ => rfl,fun _ => ⟨Nat.le_refl _,by rw [z02]; omega⟩⟩,fun j y hj => ?_⟩,Ext.alloc (Ext.refl _) _⟩
   have hj2:=z05 hj
   match j,hj with
   | 0,hj =>
    obtain rfl:(x,(i:Int)) = y:=by simpa using hj
    exact ⟨⟨HI.out.1,HI.out.2⟩,z04 _ _ _ rfl rfl,z04 _ _ _ rfl rfl⟩
   | j + 1,_ => simp only [List.length_cons,List.length_nil] at hj2; omega
theorem zpl {p:PZ} (cp:canP p):z0g p (oneZ (-1) []) = some (negP p):=by
 have e:oneZ (-1) [] = [((-1:Int),([]:Mono))]:=rfl
 rw [e]
 have e2:mulL p [((-1:Int),([]:Mono))] = negP p:=by
  rw [zjk]
  unfold negP
  refine List.map_congr_left (fun t ht => ?_)
  rw [z72 (zjg (cp.1 t ht).2),Int.mul_neg_one]
 have e3:=z7s cp.may (q:=[((-1:Int),([]:Mono))]) (fun t ht => by rw [List.mem_singleton.1 ht]; rfl) (by rw [e2]; exact (z6g cp).may)
 rw [e3,e2,z5a (z6g cp)]
theorem zzd (hp:PV W u p) (fp:Fit k n p) (hk:k ≤ 1000000) (hn:n ≤ 1000000000000):Calls Tryz.prog 138 #[u] W (z90 W (negP p)):=by
 have C1:=hid (z91 (-1) W (by decide))
 have C2:=hid (fun (Y:World) (vz:Value) (hY:Ext W Y) (hz:IntV (Old Y) Y vz (ofI (-1))) => zpk (c:=-1) (m:=[]) (l:=1) (z06.on hp hY) hz (Pows.empty (Old Y) Y none) fp rfl (by decide) (.inr (by decide)) hk (by decide) hn)
 simp only [zpl fp.can] at C2
 unfold z61 z90 at C2
 obtain ⟨a,c,rfl⟩:=hp.form
 obtain ⟨np,hnp⟩:∃ n,n = (ofP p).length:=⟨_,rfl⟩
 rw [← hnp] at C2 ⊢
 unfold z90
 clear hp fp hnp
 go_enter Tryz.func138,Tryz.ntmps138
 go_wp2_with fail
 with_reducible refine C1.out.mono ?_
 rintro e w1 ⟨v1,rfl,⟨vz,rfl,hz⟩,hx1⟩
 have HX1:=hid hx1
 have C3:=hid (C2.out w1 (.agg #[.bool (ofI (-1)).neg,vz]) hx1 ⟨vz,rfl,hz.to (Kept.refl _ _) New.lt⟩)
 obtain ⟨az,cz,rfl⟩:=hz.form
 obtain ⟨nz,hnz⟩:∃ n,n = (ofI (-1)).mag.length:=⟨_,rfl⟩
 obtain ⟨ng,hng⟩:∃ n,n = (ofI (-1)).neg:=⟨_,rfl⟩
 rw [← hnz,← hng] at C3 ⊢
 clear hz hx1 hnz hng
 go_wp2_with fail
 with_reducible refine C3.out.mono ?_
 rintro e w2 ⟨v2,rfl,hp2,hx2⟩
 have HX2:=hid (HX1.out.trans hx2)
 have HP2:=hid (hp2.to (S':=New W w2) (Kept.refl _ _) (fun k h => ⟨Nat.le_trans HX1.out.size h.1,h.2⟩))
 clear hp2 hx2
 go_wp2
 all_goals
  go_ret2
  exact ⟨_,rfl,HP2.out,HX2.out⟩
end
end
section
open Go.RowKit
structure DivAt (W:World) (bd:Nat) (vm:Value) (v d:Int) (vg vh vq vr:Value) (n:Int) (keep:Bool):Prop where
 c0:W.cell? ⟨bd,0,none⟩ = some vm
 c1:W.cell? ⟨bd,1,none⟩ = some (.int .i64 v)
 c2:W.cell? ⟨bd,2,none⟩ = some (.int .i64 d)
 c3:W.cell? ⟨bd,3,none⟩ = some vg
 c4:W.cell? ⟨bd,4,none⟩ = some vh
 c5:W.cell? ⟨bd,5,none⟩ = some vq
 c6:W.cell? ⟨bd,6,none⟩ = some vr
 c7:W.cell? ⟨bd,7,none⟩ = some (.int .i64 n)
 c8:W.cell? ⟨bd,8,none⟩ = some (.bool keep)
 fz:∀ i,W.frozen? ⟨bd,i,none⟩ = false
section
variable {W W':World} {bd:Nat} {vm vg vh vq vr:Value} {v d n:Int} {keep:Bool}
theorem DivAt.same (h:DivAt W bd vm v d vg vh vq vr n keep) (e:W'.heap[bd]? = W.heap[bd]?):DivAt W' bd vm v d vg vh vq vr n keep:=by
 have hc:∀ i,W'.cell? ⟨bd,i,none⟩ = W.cell? ⟨bd,i,none⟩:=fun i => World.cell?_of_block e
 exact ⟨(hc _).trans h.c0,(hc _).trans h.c1,(hc _).trans h.c2,(hc _).trans h.c3,(hc _).trans h.c4,(hc _).trans h.c5,(hc _).trans h.c6,(hc _).trans h.c7,(hc _).trans h.c8,fun i => (World.frozen?_of_block (w:=W) (a:=⟨bd,i,none⟩) e).trans (h.fz i)⟩
theorem DivAt.lt (h:DivAt W bd vm v d vg vh vq vr n keep):bd < W.heap.size:=z0s h.c0
theorem DivAt.ext (h:DivAt W bd vm v d vg vh vq vr n keep) (g:Ext W W'):DivAt W' bd vm v d vg vh vq vr n keep:=h.same (g.block bd h.lt)
end
theorem z30 {W W':World} {a b c:Addr} {x y z:Value} (g:Ext W W') (ha:a.block < W.heap.size) (hb:b.block < W.heap.size) (hc:c.block < W.heap.size) (h:W.cell? a = some x ∧ W.cell? b = some y ∧ W.cell? c = some z):W'.cell? a = some x ∧ W'.cell? b = some y ∧ W'.cell? c = some z :=
 ⟨(Below.cell g ha).trans h.1,(Below.cell g hb).trans h.2.1,(Below.cell g hc).trans h.2.2⟩
theorem IntV.on {w W:World} {v:Value} {z:RInt} (h:IntV (Old w) w v z) (hx:Ext w W):IntV (Old W) W v z:=h.to (Kept.ext hx (fun _ h => h)) (zbe hx)
theorem zta {W:World} {bd:Nat} {vm vg vh vq vr:Value} {v d n:Int} {keep:Bool} {r:PZ} {k m:Nat} (D:DivAt W bd vm v d vg vh vq vr n keep) (hr:PV W vr r) (fr:Fit k m r) (hk:k ≤ 1000000) (hm:m ≤ 1000000000000) (hv:1 ≤ v ∧ v ≤ 200) (hd:0 ≤ d) (hdr:d ≤ degP r v) :
  Calls Tryz.prog 137 #[.pointer (some ⟨bd,0,none⟩)] W (z61 W (z5o r v d)):=by
 have hrg:=z18 fr.can.may v
 obtain ⟨i,hi⟩:∃ i:Nat,i = (degP r v - d).toNat:=⟨_,rfl⟩
 have hi2:(i:Int) = degP r v - d:=by omega
 have hi3:i ≤ 10000:=by omega
 have fh:=fr.coef v (degP r v)
 have CH:=fun (Y:World) (hY:Ext W Y) => zv4 (W:=Y) (z06.on hr hY) fr hk hm hv
 have CO:=fun (Y:World) => z91 1 Y (by decide)
 have CD:=fun (Y:World) (hY:Ext W Y) => zas (W:=Y) (z06.on hr hY) fr hk (x:=v) (by unfold z1v; omega)
 have CP:=fun (Y:World) => zwx (W:=Y) hv hi3
 have CS:=fun (Y:World) (u z w:Value) (hu:PV Y u (z17 r v)) (hz:IntV (Old Y) Y z (ofI 1)) (hw:Pows (Old Y) Y w (powM v i)) => zpk (c:=1) (m:=powM v i) (l:=1) hu hz hw fh (zt9 hv hi3) (by decide) (.inr (by decide)) hk (by decide) hm
 simp only [zt8] at CS
 have et:z5o r v d = z0g (z17 r v) (powP v i):=by unfold z5o; rw [← hi]
 rw [← et] at CS
 rw [hi2] at CP
 obtain ⟨dr,hdr2⟩:∃ x,x = degP r v:=⟨_,rfl⟩
 rw [← hdr2] at CP CD hrg hdr
 generalize powM v i = pm at CP CS
 generalize z5o r v d = T at CS et ⊢
 generalize z17 r v = hp at CH CS
 obtain ⟨ar,cr,rfl⟩:=hr.form
 obtain ⟨nr,hnr⟩:∃ n,n = (ofP r).length:=⟨_,rfl⟩
 rw [← hnr] at CH CD D
 obtain ⟨nh,hnh⟩:∃ n,n = (ofP hp).length:=⟨_,rfl⟩
 obtain ⟨np,hnp⟩:∃ n,n = pm.length:=⟨_,rfl⟩
 obtain ⟨nz,hnz⟩:∃ n,n = (ofI 1).mag.length:=⟨_,rfl⟩
 obtain ⟨ng,hng⟩:∃ n,n = (ofI 1).neg:=⟨_,rfl⟩
 have HNH:=hid hnh
 have HNP:=hid hnp
 have HNZ:=hid hnz
 have HNG:=hid hng
 have hb:=D.lt
 have HWR:Hid (IntKind.i64.wrap (dr - d) = dr - d):=hid (IntWalk.i64_in _ (by omega))
 have HCC:Hid (_ ∧ _ ∧ _):=hid (And.intro D.c1 (And.intro D.c2 D.c6))
 have HB:=hid hb
 have x0:Ext W W.drew:=(Ext.refl W).drew
 have HXC:=hid x0
 have SC:_ ∧ _ ∧ _:=z30 x0 hb hb hb HCC.out
 have HCH:=hid CH
 have HCO:=hid CO
 have HCD:=hid CD
 have HCP:=hid CP
 have HCS:=hid CS
 clear CH CO CD CP CS D hr fr fh et hi hi2 hi3 hdr2 hnr hnh hnp hnz hng hb x0
 cases T with
 | none =>
  go_enter Tryz.func137,Tryz.ntmps137
  go_wp2
  go_region_held3 (fun Y => Y.cell? ⟨bd,1,none⟩ = some (.int .i64 v) ∧ Y.cell? ⟨bd,2,none⟩ = some (.int .i64 d) ∧ Y.cell? ⟨bd,6,none⟩ = some (.slice ar nr cr)) (with_reducible exact SC)
   (first
    | (go_at_call 119; (with_reducible refine (HCH.out _ HXC.out).mono ?_); rintro e wh ⟨v1,rfl,hp1,hx1⟩; have HXC:=hid (HXC.out.trans hx1); have SC:_ ∧ _ ∧ _:=z30 HXC.out HB.out HB.out HB.out HCC.out
       try have HPP:=hid (Pows.on HPP.out hx1)
       try have HPI:=hid (IntV.on HPI.out hx1)
       have HPH:=hid (hp1.to (S':=Old wh) (Kept.refl _ _) New.lt); obtain ⟨ah,ch,rfl⟩:=hp1.form; rw [← HNH.out] at HPH; rw [← HNH.out]; clear hp1 hx1)
    | (go_at_call 77; (with_reducible refine (HCO.out _).mono ?_); rintro e wo ⟨v1,rfl,⟨vz,rfl,hz1⟩,hx1⟩; have HXC:=hid (HXC.out.trans hx1); have SC:_ ∧ _ ∧ _:=z30 HXC.out HB.out HB.out HB.out HCC.out
       try have HPP:=hid (Pows.on HPP.out hx1)
       try have HPH:=hid (z06.on HPH.out hx1)
       obtain ⟨az,cz,rfl⟩:=hz1.form
       have HPI:Hid (IntV (Old wo) wo (.agg #[.bool ng,.slice az nz cz]) (ofI 1)):=hid ⟨_,by rw [HNG.out],by rw [HNZ.out]; exact hz1.to (Kept.refl _ _) New.lt⟩; rw [← HNZ.out,← HNG.out]; clear hz1 hx1)
    | (go_at_call 29; (with_reducible refine (HCD.out _ HXC.out).mono ?_); rintro e wd ⟨rfl,hx1⟩; have HXC:=hid (HXC.out.trans hx1); have SC:_ ∧ _ ∧ _:=z30 HXC.out HB.out HB.out HB.out HCC.out
       try have HPP:=hid (Pows.on HPP.out hx1)
       try have HPI:=hid (IntV.on HPI.out hx1)
       try have HPH:=hid (z06.on HPH.out hx1)
       clear hx1)
    | (go_at_call 150; rw [HWR.out]; (with_reducible refine (HCP.out _).mono ?_); rintro e wp ⟨v1,rfl,hp1,hx1⟩; have HXC:=hid (HXC.out.trans hx1); have SC:_ ∧ _ ∧ _:=z30 HXC.out HB.out HB.out HB.out HCC.out
       try have HPI:=hid (IntV.on HPI.out hx1)
       try have HPH:=hid (z06.on HPH.out hx1)
       have HPP:=hid (hp1.to (S':=Old wp) (Kept.refl _ _) New.lt); obtain ⟨ap,cp,rfl⟩:=hp1.form; rw [← HNP.out] at HPP; rw [← HNP.out]; clear hp1 hx1)
    | (go_at_call 149; (with_reducible refine (HCS.out _ _ _ _ HPH.out HPI.out HPP.out).mono ?_); rintro e ws ⟨rfl,hx1⟩; have HXC:=hid (HXC.out.trans hx1); have SC:_ ∧ _ ∧ _:=z30 HXC.out HB.out HB.out HB.out HCC.out; clear hx1))
  all_goals
   go_wp2
   all_goals
    go_ret2
    exact ⟨rfl,HXC.out⟩
 | some t =>
  go_enter Tryz.func137,Tryz.ntmps137
  go_wp2
  go_region_held3 (fun Y => Y.cell? ⟨bd,1,none⟩ = some (.int .i64 v) ∧ Y.cell? ⟨bd,2,none⟩ = some (.int .i64 d) ∧ Y.cell? ⟨bd,6,none⟩ = some (.slice ar nr cr)) (with_reducible exact SC)
   (first
    | (go_at_call 119; (with_reducible refine (HCH.out _ HXC.out).mono ?_); rintro e wh ⟨v1,rfl,hp1,hx1⟩; have HXC:=hid (HXC.out.trans hx1); have SC:_ ∧ _ ∧ _:=z30 HXC.out HB.out HB.out HB.out HCC.out
       try have HPP:=hid (Pows.on HPP.out hx1)
       try have HPI:=hid (IntV.on HPI.out hx1)
       have HPH:=hid (hp1.to (S':=Old wh) (Kept.refl _ _) New.lt); obtain ⟨ah,ch,rfl⟩:=hp1.form; rw [← HNH.out] at HPH; rw [← HNH.out]; clear hp1 hx1)
    | (go_at_call 77; (with_reducible refine (HCO.out _).mono ?_); rintro e wo ⟨v1,rfl,⟨vz,rfl,hz1⟩,hx1⟩; have HXC:=hid (HXC.out.trans hx1); have SC:_ ∧ _ ∧ _:=z30 HXC.out HB.out HB.out HB.out HCC.out
       try have HPP:=hid (Pows.on HPP.out hx1)
       try have HPH:=hid (z06.on HPH.out hx1)
       obtain ⟨az,cz,rfl⟩:=hz1.form
       have HPI:Hid (IntV (Old wo) wo (.agg #[.bool ng,.slice az nz cz]) (ofI 1)):=hid ⟨_,by rw [HNG.out],by rw [HNZ.out]; exact hz1.to (Kept.refl _ _) New.lt⟩; rw [← HNZ.out,← HNG.out]; clear hz1 hx1)
    | (go_at_call 29; (with_reducible refine (HCD.out _ HXC.out).mono ?_); rintro e wd ⟨rfl,hx1⟩; have HXC:=hid (HXC.out.trans hx1); have SC:_ ∧ _ ∧ _:=z30 HXC.out HB.out HB.out HB.out HCC.out
       try have HPP:=hid (Pows.on HPP.out hx1)
       try have HPI:=hid (IntV.on HPI.out hx1)
       try have HPH:=hid (z06.on HPH.out hx1)
       clear hx1)
    | (go_at_call 150; rw [HWR.out]; (with_reducible refine (HCP.out _).mono ?_); rintro e wp ⟨v1,rfl,hp1,hx1⟩; have HXC:=hid (HXC.out.trans hx1); have SC:_ ∧ _ ∧ _:=z30 HXC.out HB.out HB.out HB.out HCC.out
       try have HPI:=hid (IntV.on HPI.out hx1)
       try have HPH:=hid (z06.on HPH.out hx1)
       have HPP:=hid (hp1.to (S':=Old wp) (Kept.refl _ _) New.lt); obtain ⟨ap,cp,rfl⟩:=hp1.form; rw [← HNP.out] at HPP; rw [← HNP.out]; clear hp1 hx1)
    | (go_at_call 149; (with_reducible refine (HCS.out _ _ _ _ HPH.out HPI.out HPP.out).mono ?_); rintro e ws ⟨v1,rfl,hp1,hx1⟩; have HPT:=hid (hp1.to (S':=New W ws) (Kept.refl _ _) (fun k h => ⟨Nat.le_trans HXC.out.size h.1,h.2⟩)); have HXC:=hid (HXC.out.trans hx1); have SC:_ ∧ _ ∧ _:=z30 HXC.out HB.out HB.out HB.out HCC.out; clear hx1 hp1))
  all_goals
   go_wp2
   all_goals
    go_ret2
    exact ⟨_,rfl,HPT.out,HXC.out⟩
end
section
open Go.RowKit
section
variable {W:World} {bd:Nat} {vm vg vh vq vr vp vo:Value} {v d n:Int} {keep:Bool} {h p q:PZ} {A B T M L l:Nat}
def mixD (h p q:PZ):Option PZ:=match z0g h p with
 | none => none
 | some u => some (z1t (u ++ q))
theorem zh1 (D:DivAt W bd vm v d vg vh vq vr n keep) (hh:PV W vh h) (hp:PV W vp p) (hq:PV W vo q) (fh:Fit A T h) (fp:Fit B M p) (fq:Fit l L q) (hA:A < 24) (hB:B ≤ 900000) (hl:l ≤ 900000) (hTM:T * M + L ≤ 1000000000000) :
  Calls Tryz.prog 139 #[.pointer (some ⟨bd,0,none⟩),vp,vo] W (z61 W (mixD h p q)):=by
 have HX0:=hid (Ext.refl W)
 have CT:=zen hh hp fh fp (.inl hA) (by omega) (by omega) (by omega)
 have CA:=fun (Y:World) (w:Value) (u:PZ) (hu:z0g h p = some u) (hY:Ext W Y) (hw:PV Y w u) => zpd hw (z06.on hq hY) (fh.times fp hu (by omega)) fq (by omega) (by omega) hTM
 obtain ⟨ah,ch,rfl⟩:=hh.form
 obtain ⟨ap,cp,rfl⟩:=hp.form
 obtain ⟨aq,cq,rfl⟩:=hq.form
 obtain ⟨nh,hnh⟩:∃ n,n = (ofP h).length:=⟨_,rfl⟩
 obtain ⟨np,hnp⟩:∃ n,n = (ofP p).length:=⟨_,rfl⟩
 obtain ⟨nq,hnq⟩:∃ n,n = (ofP q).length:=⟨_,rfl⟩
 rw [← hnh] at D CT
 rw [← hnp] at CT ⊢
 rw [← hnq] at CA ⊢
 have d4:=D.c4
 have em:mixD h p q = match z0g h p with
  | none => none
  | some u => some (z1t (u ++ q)):=rfl
 rw [em]
 cases hT:z0g h p with
 | none =>
  rw [hT] at CT
  have HCT:=hid CT
  clear D hh hp hq fh fp fq CT CA hnh hnp hnq hT em
  go_enter Tryz.func139,Tryz.ntmps139
  go_wp2_with fail
  with_reducible refine HCT.out.mono ?_
  rintro e w1 ⟨rfl,hx1⟩
  have HX1:=hid hx1
  clear hx1
  go_wp2
  all_goals
   go_ret2
   exact ⟨rfl,HX1.out⟩
 | some u =>
  rw [hT] at CT
  have HCT:=hid CT
  have HCA:=hid (fun Y w hY hw => CA Y w u hT hY hw)
  clear D hh hp hq fh fp fq CT CA hnh hnp hnq hT em
  go_enter Tryz.func139,Tryz.ntmps139
  go_wp2_with fail
  with_reducible refine HCT.out.mono ?_
  rintro e w1 ⟨v1,rfl,hp1,hx1⟩
  have HX1:=hid hx1
  have HA1:=hid (HCA.out w1 v1 hx1 (hp1.to (Kept.refl _ _) New.lt))
  obtain ⟨a1,c1,rfl⟩:=hp1.form
  clear hx1 hp1
  go_wp2_with fail
  with_reducible refine HA1.out.mono ?_
  rintro e w2 ⟨v2,rfl,hp2,hx2⟩
  have HX2:=hid (HX1.out.trans hx2)
  have HP2:=hid (hp2.to (S':=New W w2) (Kept.refl _ _) (fun k h => ⟨Nat.le_trans HX1.out.size h.1,h.2⟩))
  clear hp2 hx2
  go_wp2
  all_goals
   go_ret2
   exact ⟨_,rfl,HP2.out,HX2.out⟩
end
theorem zpm (keep:Bool) (g h:PZ) (v d:Int) (q r:PZ):z4m keep g h v d q r = match z5o r v d with
  | none => none
  | some t => match z0g t g with
   | none => none
   | some l => match mixD h r (negP l) with
    | none => none
    | some x => if keep then (match mixD h q t with
      | none => none
      | some y => some (y,x))
     else some ([],x):=by
 unfold z4m mixD
 cases z5o r v d with
 | none => rfl
 | some t =>
  simp only
  cases z0g t g with
  | none => rfl
  | some l =>
   simp only
   cases z0g h r with
   | none => rfl
   | some m =>
    simp only
    cases keep with
    | false => rfl
    | true =>
     simp only [if_true]
     cases z0g h q with
     | none => rfl
     | some u => rfl
def ztb (W:World):Option (PZ × PZ) → Ending → World → Prop
 | none => fun e w' => ∃ a b,e = .returned (.tuple #[a,b,.int .i64 8]) ∧ Ext W w'
 | some x => fun e w' => ∃ a b,e = .returned (.tuple #[a,b,.int .i64 0]) ∧ z06 (New W w') w' a (ofP x.1) ∧ z06 (New W w') w' b (ofP x.2) ∧ Ext W w'
theorem ztc {W:World} {bd:Nat} {vm vg vh vq vr:Value} {v d n:Int} {keep:Bool} {g h q r:PZ} {A B T M:Nat} (D:DivAt W bd vm v d vg vh vq vr n keep) (hg:PV W vg g) (hh:PV W vh h) (hq:PV W vq q) (hr:PV W vr r) (fg:Fit A T g) (fh:Fit A T h) (fq:Fit B M q) (fr:Fit B M r)
  (hA:A < 24) (hB:B ≤ 80000) (hT:1 ≤ T) (hTM:2 * T * M ≤ 1000000000000) (hv:1 ≤ v ∧ v ≤ 200) (hd:0 ≤ d) (hdr:d ≤ degP r v) :
  Calls Tryz.prog 121 #[.pointer (some ⟨bd,0,none⟩)] W (ztb W (z4m keep g h v d q r)):=by
 have HX0:=hid (Ext.refl W)
 have h1:M ≤ T * M:=Nat.le_mul_of_pos_left M hT
 have h2:2 * T * M = T * M + T * M:=by rw [Nat.mul_assoc]; omega
 have h3:M * T = T * M:=Nat.mul_comm _ _
 have CT:=zta D hr fr (by omega) (by omega) hv hd hdr
 have CG:=fun (t:PZ) (ht:z5o r v d = some t) (Y:World) (w:Value) (hY:Ext W Y) (hw:PV Y w t) => zen hw (z06.on hg hY) (z99 fr (by omega) hv hd ht) fg (.inr hA) (by omega) (by omega) (by omega)
 have CN:=fun (t l:PZ) (ht:z5o r v d = some t) (hl:z0g t g = some l) (Y:World) (w:Value) (hw:PV Y w l) => zzd hw ((z99 fr (by omega) hv hd ht).times fg hl (by omega)) (by omega) (by omega)
 have CR:=fun (t l:PZ) (ht:z5o r v d = some t) (hl:z0g t g = some l) (Y:World) (w:Value) (hY:Ext W Y) (hw:PV Y w (negP l)) => zh1 (D.ext hY) (z06.on hh hY) (z06.on hr hY) hw fh fr ((z99 fr (by omega) hv hd ht).times fg hl (by omega)).neg hA (by omega) (by omega) (by omega)
 have CQ:=fun (t:PZ) (ht:z5o r v d = some t) (Y:World) (w:Value) (hY:Ext W Y) (hw:PV Y w t) => zh1 (D.ext hY) (z06.on hh hY) (z06.on hq hY) hw fh fq (z99 fr (by omega) hv hd ht) hA (by omega) (by omega) (by omega)
 obtain ⟨ag,cg,rfl⟩:=hg.form
 obtain ⟨aq,cq,rfl⟩:=hq.form
 obtain ⟨ar,cr,rfl⟩:=hr.form
 obtain ⟨ng,hng⟩:∃ n,n = (ofP g).length:=⟨_,rfl⟩
 obtain ⟨nq,hnq⟩:∃ n,n = (ofP q).length:=⟨_,rfl⟩
 obtain ⟨nr,hnr⟩:∃ n,n = (ofP r).length:=⟨_,rfl⟩
 rw [← hng] at CG D
 rw [← hnq] at CQ D
 rw [← hnr] at CR D
 have HD:=hid D
 rw [zpm]
 cases ht:z5o r v d with
 | none =>
  rw [ht] at CT
  have HCT:=hid CT
  simp only
  clear D hg hh hq hr fg fh fq fr CT CG CN CR CQ hng hnq hnr h1 h2 h3 hdr hd hv ht hTM
  go_enter Tryz.func121,Tryz.ntmps121
  go_wp2_with fail
  with_reducible refine HCT.out.mono ?_
  rintro e w1 ⟨rfl,hx1⟩
  have HX1:=hid hx1
  clear hx1
  go_wp2
  all_goals
   refine bodyPost_ret (v:=.tuple #[.slice none 0 0,.slice none 0 0,.int .i64 8]) (by simp [results,Tryz.results121,go_sem]) rfl ?_
   exact ⟨_,_,rfl,HX1.out⟩
 | some t =>
  rw [ht] at CT
  have HCT:=hid CT
  have HCG:=hid (CG t ht)
  have HCN:=hid (fun l => CN t l ht)
  have HCR:=hid (fun l => CR t l ht)
  have HCQ:=hid (CQ t ht)
  simp only
  cases hl:z0g t g with
  | none =>
   rw [hl] at HCG
   simp only
   clear D hg hh hq hr fg fh fq fr CT CG CN CR CQ hng hnq hnr h1 h2 h3 hdr hd hv ht hTM hl
   go_enter Tryz.func121,Tryz.ntmps121
   go_wp2_with fail
   with_reducible refine HCT.out.mono ?_
   rintro e w1 ⟨v1,rfl,hp1,hx1⟩
   have HX1:=hid hx1
   have d3:=(HD.out.ext hx1).c3
   have HT1:=hid (hp1.to (S':=Old w1) (Kept.refl _ _) New.lt)
   have HG1:=hid (HCG.out w1 v1 hx1 HT1.out)
   obtain ⟨a1,c1,rfl⟩:=hp1.form
   obtain ⟨n1,hn1⟩:∃ n,n = (ofP t).length:=⟨_,rfl⟩
   rw [← hn1] at HG1 HT1 ⊢
   clear hx1 hp1 hn1
   go_wp2_with fail
   with_reducible refine HG1.out.mono ?_
   rintro e w2 ⟨rfl,hx2⟩
   have HX2:=hid (HX1.out.trans hx2)
   clear hx2
   go_wp2
   all_goals
    refine bodyPost_ret (v:=.tuple #[.slice none 0 0,.slice none 0 0,.int .i64 8]) (by simp [results,Tryz.results121,go_sem]) rfl ?_
    exact ⟨_,_,rfl,HX2.out⟩
  | some l =>
   rw [hl] at HCG
   have HN:=hid (HCN.out l hl)
   have HR:=hid (HCR.out l hl)
   clear HCN HCR
   simp only
   clear D hg hh hq hr fg fh fq fr CT CG CN CR CQ hng hnq hnr h1 h2 h3 hdr hd hv ht hTM hl
   generalize mixD h r (negP l) = X1 at HR ⊢
   generalize mixD h q t = X2 at HCQ ⊢
   cases X1 with
   | none =>
    simp only
    go_enter Tryz.func121,Tryz.ntmps121
    go_wp2_with fail
    with_reducible refine HCT.out.mono ?_
    rintro e w1 ⟨v1,rfl,hp1,hx1⟩
    have HX1:=hid hx1
    have d3:=(HD.out.ext hx1).c3
    have HT1:=hid (hp1.to (S':=Old w1) (Kept.refl _ _) New.lt)
    have HG1:=hid (HCG.out w1 v1 hx1 HT1.out)
    obtain ⟨a1,c1,rfl⟩:=hp1.form
    obtain ⟨n1,hn1⟩:∃ n,n = (ofP t).length:=⟨_,rfl⟩
    rw [← hn1] at HG1 HT1 ⊢
    clear hx1 hp1 hn1
    go_wp2_with fail
    with_reducible refine HG1.out.mono ?_
    rintro e w2 ⟨v2,rfl,hp2,hx2⟩
    have HX2:=hid (HX1.out.trans hx2)
    have HT2:=hid (z06.on HT1.out hx2)
    have HN2:=hid (HN.out w2 v2 (hp2.to (Kept.refl _ _) New.lt))
    obtain ⟨a2,c2,rfl⟩:=hp2.form
    obtain ⟨n2,hn2⟩:∃ n,n = (ofP l).length:=⟨_,rfl⟩
    rw [← hn2] at HN2 ⊢
    clear hx2 hp2 hn2 d3
    go_wp2_with fail
    with_reducible refine HN2.out.mono ?_
    rintro e w3 ⟨v3,rfl,hp3,hx3⟩
    have HX3:=hid (HX2.out.trans hx3)
    have HT3:=hid (z06.on HT2.out hx3)
    have d6:=(HD.out.ext HX3.out).c6
    have HR3:=hid (HR.out w3 v3 HX3.out (hp3.to (Kept.refl _ _) New.lt))
    obtain ⟨a3,c3,rfl⟩:=hp3.form
    obtain ⟨n3,hn3⟩:∃ n,n = (ofP (negP l)).length:=⟨_,rfl⟩
    rw [← hn3] at HR3 ⊢
    clear hx3 hp3 hn3
    go_wp2_with fail
    with_reducible refine HR3.out.mono ?_
    rintro e w4 ⟨rfl,hx4⟩
    have HX4:=hid (HX3.out.trans hx4)
    clear hx4 d6
    go_wp2
    all_goals
     refine bodyPost_ret (v:=.tuple #[.slice none 0 0,.slice none 0 0,.int .i64 8]) (by simp [results,Tryz.results121,go_sem]) rfl ?_
     exact ⟨_,_,rfl,HX4.out⟩
   | some x =>
    simp only
    cases keep with
    | false =>
     simp only [Bool.false_eq_true,if_false]
     go_enter Tryz.func121,Tryz.ntmps121
     go_wp2_with fail
     with_reducible refine HCT.out.mono ?_
     rintro e w1 ⟨v1,rfl,hp1,hx1⟩
     have HX1:=hid hx1
     have d3:=(HD.out.ext hx1).c3
     have HT1:=hid (hp1.to (S':=Old w1) (Kept.refl _ _) New.lt)
     have HG1:=hid (HCG.out w1 v1 hx1 HT1.out)
     obtain ⟨a1,c1,rfl⟩:=hp1.form
     obtain ⟨n1,hn1⟩:∃ n,n = (ofP t).length:=⟨_,rfl⟩
     rw [← hn1] at HG1 HT1 ⊢
     clear hx1 hp1 hn1
     go_wp2_with fail
     with_reducible refine HG1.out.mono ?_
     rintro e w2 ⟨v2,rfl,hp2,hx2⟩
     have HX2:=hid (HX1.out.trans hx2)
     have HT2:=hid (z06.on HT1.out hx2)
     have HN2:=hid (HN.out w2 v2 (hp2.to (Kept.refl _ _) New.lt))
     obtain ⟨a2,c2,rfl⟩:=hp2.form
     obtain ⟨n2,hn2⟩:∃ n,n = (ofP l).length:=⟨_,rfl⟩
     rw [← hn2] at HN2 ⊢
     clear hx2 hp2 hn2 d3
     go_wp2_with fail
     with_reducible refine HN2.out.mono ?_
     rintro e w3 ⟨v3,rfl,hp3,hx3⟩
     have HX3:=hid (HX2.out.trans hx3)
     have HT3:=hid (z06.on HT2.out hx3)
     have d6:=(HD.out.ext HX3.out).c6
     have HR3:=hid (HR.out w3 v3 HX3.out (hp3.to (Kept.refl _ _) New.lt))
     obtain ⟨a3,c3,rfl⟩:=hp3.form
     obtain ⟨n3,hn3⟩:∃ n,n = (ofP (negP l)).length:=⟨_,rfl⟩
     rw [← hn3] at HR3 ⊢
     clear hx3 hp3 hn3
     go_wp2_with fail
     with_reducible refine HR3.out.mono ?_
     rintro e w4 ⟨v4,rfl,hp4,hx4⟩
     have HX4:=hid (HX3.out.trans hx4)
     have HP4:=hid (hp4.to (S':=New W w4) (Kept.refl _ _) (fun k h => ⟨Nat.le_trans HX3.out.size h.1,h.2⟩))
     have HT4:=hid (z06.on HT3.out hx4)
     have d8:=(HD.out.ext HX4.out).c8
     have d5:=(HD.out.ext HX4.out).c5
     obtain ⟨a4,c4,rfl⟩:=hp4.form
     obtain ⟨n4,hn4⟩:∃ n,n = (ofP x).length:=⟨_,rfl⟩
     rw [← hn4] at HP4 ⊢
     clear hx4 hp4 d6 hn4
     go_wp2
     all_goals
      refine bodyPost_ret (v:=.tuple #[.slice none 0 0,.slice a4 n4 c4,.int .i64 0]) (by simp [results,Tryz.results121,go_sem]) rfl ?_
      exact ⟨_,_,rfl,z06.nilv _ _ _ _ (by decide),HP4.out,HX4.out⟩
    | true =>
     simp only [if_true]
     cases X2 with
     | none =>
      simp only
      go_enter Tryz.func121,Tryz.ntmps121
      go_wp2_with fail
      with_reducible refine HCT.out.mono ?_
      rintro e w1 ⟨v1,rfl,hp1,hx1⟩
      have HX1:=hid hx1
      have d3:=(HD.out.ext hx1).c3
      have HT1:=hid (hp1.to (S':=Old w1) (Kept.refl _ _) New.lt)
      have HG1:=hid (HCG.out w1 v1 hx1 HT1.out)
      obtain ⟨a1,c1,rfl⟩:=hp1.form
      obtain ⟨n1,hn1⟩:∃ n,n = (ofP t).length:=⟨_,rfl⟩
      rw [← hn1] at HG1 HT1 ⊢
      clear hx1 hp1 hn1
      go_wp2_with fail
      with_reducible refine HG1.out.mono ?_
      rintro e w2 ⟨v2,rfl,hp2,hx2⟩
      have HX2:=hid (HX1.out.trans hx2)
      have HT2:=hid (z06.on HT1.out hx2)
      have HN2:=hid (HN.out w2 v2 (hp2.to (Kept.refl _ _) New.lt))
      obtain ⟨a2,c2,rfl⟩:=hp2.form
      obtain ⟨n2,hn2⟩:∃ n,n = (ofP l).length:=⟨_,rfl⟩
      rw [← hn2] at HN2 ⊢
      clear hx2 hp2 hn2 d3
      go_wp2_with fail
      with_reducible refine HN2.out.mono ?_
      rintro e w3 ⟨v3,rfl,hp3,hx3⟩
      have HX3:=hid (HX2.out.trans hx3)
      have HT3:=hid (z06.on HT2.out hx3)
      have d6:=(HD.out.ext HX3.out).c6
      have HR3:=hid (HR.out w3 v3 HX3.out (hp3.to (Kept.refl _ _) New.lt))
      obtain ⟨a3,c3,rfl⟩:=hp3.form
      obtain ⟨n3,hn3⟩:∃ n,n = (ofP (negP l)).length:=⟨_,rfl⟩
      rw [← hn3] at HR3 ⊢
      clear hx3 hp3 hn3
      go_wp2_with fail
      with_reducible refine HR3.out.mono ?_
      rintro e w4 ⟨v4,rfl,hp4,hx4⟩
      have HX4:=hid (HX3.out.trans hx4)
      have HP4:=hid (hp4.to (S':=New W w4) (Kept.refl _ _) (fun k h => ⟨Nat.le_trans HX3.out.size h.1,h.2⟩))
      have HT4:=hid (z06.on HT3.out hx4)
      have d8:=(HD.out.ext HX4.out).c8
      have d5:=(HD.out.ext HX4.out).c5
      obtain ⟨a4,c4,rfl⟩:=hp4.form
      obtain ⟨n4,hn4⟩:∃ n,n = (ofP x).length:=⟨_,rfl⟩
      rw [← hn4] at HP4 ⊢
      clear hx4 hp4 d6 hn4
      have HQ4:=hid (HCQ.out w4 (.slice a1 n1 c1) HX4.out HT4.out)
      go_wp2_with fail
      with_reducible refine HQ4.out.mono ?_
      rintro e w5 ⟨rfl,hx5⟩
      have HX5:=hid (HX4.out.trans hx5)
      clear hx5 d8 d5
      go_wp2
      all_goals
       refine bodyPost_ret (v:=.tuple #[.slice none 0 0,.slice a4 n4 c4,.int .i64 8]) (by simp [results,Tryz.results121,go_sem]) rfl ?_
       exact ⟨_,_,rfl,HX5.out⟩
     | some y =>
      simp only
      go_enter Tryz.func121,Tryz.ntmps121
      go_wp2_with fail
      with_reducible refine HCT.out.mono ?_
      rintro e w1 ⟨v1,rfl,hp1,hx1⟩
      have HX1:=hid hx1
      have d3:=(HD.out.ext hx1).c3
      have HT1:=hid (hp1.to (S':=Old w1) (Kept.refl _ _) New.lt)
      have HG1:=hid (HCG.out w1 v1 hx1 HT1.out)
      obtain ⟨a1,c1,rfl⟩:=hp1.form
      obtain ⟨n1,hn1⟩:∃ n,n = (ofP t).length:=⟨_,rfl⟩
      rw [← hn1] at HG1 HT1 ⊢
      clear hx1 hp1 hn1
      go_wp2_with fail
      with_reducible refine HG1.out.mono ?_
      rintro e w2 ⟨v2,rfl,hp2,hx2⟩
      have HX2:=hid (HX1.out.trans hx2)
      have HT2:=hid (z06.on HT1.out hx2)
      have HN2:=hid (HN.out w2 v2 (hp2.to (Kept.refl _ _) New.lt))
      obtain ⟨a2,c2,rfl⟩:=hp2.form
      obtain ⟨n2,hn2⟩:∃ n,n = (ofP l).length:=⟨_,rfl⟩
      rw [← hn2] at HN2 ⊢
      clear hx2 hp2 hn2 d3
      go_wp2_with fail
      with_reducible refine HN2.out.mono ?_
      rintro e w3 ⟨v3,rfl,hp3,hx3⟩
      have HX3:=hid (HX2.out.trans hx3)
      have HT3:=hid (z06.on HT2.out hx3)
      have d6:=(HD.out.ext HX3.out).c6
      have HR3:=hid (HR.out w3 v3 HX3.out (hp3.to (Kept.refl _ _) New.lt))
      obtain ⟨a3,c3,rfl⟩:=hp3.form
      obtain ⟨n3,hn3⟩:∃ n,n = (ofP (negP l)).length:=⟨_,rfl⟩
      rw [← hn3] at HR3 ⊢
      clear hx3 hp3 hn3
      go_wp2_with fail
      with_reducible refine HR3.out.mono ?_
      rintro e w4 ⟨v4,rfl,hp4,hx4⟩
      have HX4:=hid (HX3.out.trans hx4)
      have HP4:=hid (hp4.to (S':=New W w4) (Kept.refl _ _) (fun k h => ⟨Nat.le_trans HX3.out.size h.1,h.2⟩))
      have HT4:=hid (z06.on HT3.out hx4)
      have d8:=(HD.out.ext HX4.out).c8
      have d5:=(HD.out.ext HX4.out).c5
      obtain ⟨a4,c4,rfl⟩:=hp4.form
      obtain ⟨n4,hn4⟩:∃ n,n = (ofP x).length:=⟨_,rfl⟩
      rw [← hn4] at HP4 ⊢
      clear hx4 hp4 d6 hn4
      have HQ4:=hid (HCQ.out w4 (.slice a1 n1 c1) HX4.out HT4.out)
      go_wp2_with fail
      with_reducible refine HQ4.out.mono ?_
      rintro e w5 ⟨v5,rfl,hp5,hx5⟩
      have HX5:=hid (HX4.out.trans hx5)
      have HP5:=hid (hp5.to (S':=New W w5) (Kept.refl _ _) (fun k h => ⟨Nat.le_trans HX4.out.size h.1,h.2⟩))
      have HP4':=hid (HP4.out.to (S':=New W w5) (Kept.ext hx5 (fun _ h => h.2)) (fun k h => ⟨h.1,Nat.lt_of_lt_of_le h.2 hx5.size⟩))
      obtain ⟨a5,c5,rfl⟩:=hp5.form
      obtain ⟨n5,hn5⟩:∃ n,n = (ofP y).length:=⟨_,rfl⟩
      rw [← hn5] at HP5 ⊢
      clear hx5 hp5 d8 d5 hn5
      go_wp2
      all_goals
       refine bodyPost_ret (v:=.tuple #[.slice a5 n5 c5,.slice a4 n4 c4,.int .i64 0]) (by simp [results,Tryz.results121,go_sem]) rfl ?_
       exact ⟨_,_,rfl,HP5.out,HP4'.out,HX5.out⟩
end
section
open Go.RowKit
abbrev NC (o:Option Nat) (bd:Nat) (W:World):Nat → Prop:=fun k => k < W.heap.size ∧ some k ≠ o ∧ k ≠ bd
structure Gd (o:Option Nat) (bd:Nat) (W W':World):Prop where
 os:W'.os = W.os
 tape:W'.tape = W.tape
 output:W'.output = W.output
 size:W.heap.size ≤ W'.heap.size
 block:∀ k,k < W.heap.size → some k ≠ o → k ≠ bd → W'.heap[k]? = W.heap[k]?
section
variable {o:Option Nat} {bd:Nat} {A B C W W':World} {v:Value} {p:PZ} {s:MSt}
theorem Gd.refl (o:Option Nat) (bd:Nat) (W:World):Gd o bd W W:=⟨rfl,rfl,rfl,Nat.le_refl _,fun _ _ _ _ => rfl⟩
theorem Gd.trans (h:Gd o bd A B) (k:Gd o bd B C):Gd o bd A C :=
 ⟨k.os.trans h.os,k.tape.trans h.tape,k.output.trans h.output,Nat.le_trans h.size k.size,fun i h1 h2 h3 => (k.block i (Nat.lt_of_lt_of_le h1 h.size) h2 h3).trans (h.block i h1 h2 h3)⟩
theorem zcx (h:A.grownBy B o):Gd o bd A B:=⟨h.os,h.tape,h.output,h.size,fun k h1 h2 _ => h.block k h1 h2⟩
theorem z2b (h:Ext A B):Gd o bd A B:=zcx (z11 h o)
theorem zae (w:World) {a:Addr} (ha:a.block = bd) (u:Value):Gd o bd w (w.setCell a u):=⟨rfl,rfl,rfl,by simp [World.setCell],fun k _ _ h3 => Below.heap_setCell _ _ _ _ (fun e => h3 (by rw [e,ha]))⟩
theorem Gd.gb (h:Gd o bd A B) (hb:A.heap.size ≤ bd):A.grownBy B o:=⟨h.os,h.tape,h.output,h.size,fun k h1 h2 => h.block k h1 h2 (by omega)⟩
theorem zpn (g:Gd o bd W W'):Kept (NC o bd W) W W':=fun k h => g.block k h.1 h.2.1 h.2.2
theorem zpo (g:W.heap.size ≤ W'.heap.size):∀ k,NC o bd W k → NC o bd W' k:=fun _ h => ⟨Nat.lt_of_lt_of_le h.1 g,h.2⟩
abbrev PC (o:Option Nat) (bd:Nat) (W:World) (v:Value) (p:PZ):Prop:=z06 (NC o bd W) W v (ofP p)
theorem PC.pv (h:PC o bd W v p):PV W v p:=h.to (Kept.refl _ _) (fun _ h => h.1)
theorem PC.pm (h:PC o bd W v p):PM o W v p:=h.to (Kept.refl _ _) (fun _ h => ⟨h.1,h.2.1⟩)
theorem PC.on (h:PC o bd W v p) (g:Gd o bd W W'):PC o bd W' v p:=h.to (zpn g) (zpo g.size)
abbrev PN (N:Nat) (o:Option Nat) (bd:Nat) (W:World) (v:Value) (p:PZ):Prop:=z06 (fun k => N ≤ k ∧ NC o bd W k) W v (ofP p)
theorem PN.pc {N:Nat} (h:PN N o bd W v p):PC o bd W v p:=h.to (Kept.refl _ _) (fun _ h => h.2)
theorem PN.on {N:Nat} (h:PN N o bd W v p) (g:Gd o bd W W'):PN N o bd W' v p:=h.to (fun k hk => zpn g k hk.2) (fun k hk => ⟨hk.1,zpo g.size k hk.2⟩)
theorem PN.low {N M:Nat} (h:PN N o bd W v p) (hM:M ≤ N):PN M o bd W v p:=h.to (Kept.refl _ _) (fun _ h => ⟨Nat.le_trans hM h.1,h.2⟩)
theorem PN.pmn {N:Nat} (h:PN N o bd W v p):PMN N o W v p:=h.to (Kept.refl _ _) (fun _ h => ⟨h.1,h.2.1,h.2.2.1⟩)
theorem zv5 (hm:∀ b,o = some b → b < A.heap.size) (hb:bd < A.heap.size):∀ k,New A W' k → NC o bd W' k:=fun k hk => ⟨hk.2,fun e => by have:=hm k e.symm; have:=hk.1; omega,fun e => by have:=hk.1; omega⟩
theorem MV.set (h:MV W o s) (hob:∀ b,o = some b → b ≠ bd) {a:Addr} (ha:a.block = bd) (u:Value):MV (W.setCell a u) o s:=fun b hb => by
 refine ⟨(h b hb).1.grown (r:=some bd) (z3t (z51 W (some bd)) ha u) (fun e => hob b hb (Option.some.inj e)),(h b hb).2⟩
end
def z53 (o:Option Nat) (keep:Bool) (g h:PZ) (v d:Int) (s:MSt) (q r:PZ):Int × MSt × Option (PZ × PZ) :=
 if (z1e o s).1 ≠ 0 then ((z1e o s).1,(z1e o s).2,none) else
 match z4m keep g h v d q r with
 | none => (8,mexp o (z1e o s).2,none)
 | some x =>
  if (z10 o (z1e o s).2 x.2).1 ≠ 0 then ((z10 o (z1e o s).2 x.2).1,(z10 o (z1e o s).2 x.2).2,none) else
  if (z10 o (z1e o s).2 x.1).1 ≠ 0 then ((z10 o (z1e o s).2 x.1).1,(z10 o (z1e o s).2 x.1).2,none) else
  (0,(z1e o s).2,some x)
theorem zc9 (o:Option Nat) (keep:Bool) (g h:PZ) (v d:Int) (k:Nat) (s:MSt) (q r:PZ) (n:Nat) :
  runD o keep g h v d (k + 1) s q r n = if r = [] ∨ degP r v < d then ⟨0,q,r,n,s⟩ else
   match (z53 o keep g h v d s q r).2.2 with
   | none => ⟨(z53 o keep g h v d s q r).1,[],[],0,(z53 o keep g h v d s q r).2.1⟩
   | some x => runD o keep g h v d k (z53 o keep g h v d s q r).2.1 x.1 x.2 (n + 1):=by
 rw [runD]
 unfold z53
 split
 ·rfl
 split
 ·rfl
 cases z4m keep g h v d q r with
 | none => rfl
 | some x =>
  simp only
  split
  ·rfl
  split
  ·rfl
  ·rfl
theorem zlp {o:Option Nat} {keep:Bool} {g h:PZ} {v d:Int} {s:MSt} {q r:PZ} {x:PZ × PZ} (hx:(z53 o keep g h v d s q r).2.2 = some x) :
  (z53 o keep g h v d s q r).1 = 0 ∧ (z1e o s).1 = 0 ∧ z4m keep g h v d q r = some x ∧ (z10 o (z1e o s).2 x.2).1 = 0 ∧ (z10 o (z1e o s).2 x.1).1 = 0 ∧ (z53 o keep g h v d s q r).2.1 = (z1e o s).2:=by
 unfold z53 at hx ⊢
 by_cases h1:(z1e o s).1 ≠ 0
 ·rw [if_pos h1] at hx; cases hx
 rw [if_neg h1] at hx ⊢
 cases hst:z4m keep g h v d q r with
 | none => rw [hst] at hx; cases hx
 | some y =>
  rw [hst] at hx
  simp only at hx ⊢
  by_cases h2:(z10 o (z1e o s).2 y.2).1 ≠ 0
  ·rw [if_pos h2] at hx; cases hx
  rw [if_neg h2] at hx ⊢
  by_cases h3:(z10 o (z1e o s).2 y.1).1 ≠ 0
  ·rw [if_pos h3] at hx; cases hx
  rw [if_neg h3] at hx ⊢
  cases hx
  exact ⟨rfl,Decidable.not_not.1 h1,rfl,Decidable.not_not.1 h2,Decidable.not_not.1 h3,rfl⟩
theorem zlq {o:Option Nat} {keep:Bool} {g h:PZ} {v d:Int} {s:MSt} {q r:PZ} (hx:(z53 o keep g h v d s q r).2.2 = none):(z53 o keep g h v d s q r).1 ≠ 0:=by
 unfold z53 at hx ⊢
 by_cases h1:(z1e o s).1 ≠ 0
 ·rw [if_pos h1]; exact h1
 rw [if_neg h1] at hx ⊢
 cases hst:z4m keep g h v d q r with
 | none => show (8:Int) ≠ 0; decide
 | some y =>
  rw [hst] at hx
  simp only at hx ⊢
  by_cases h2:(z10 o (z1e o s).2 y.2).1 ≠ 0
  ·rw [if_pos h2]; exact h2
  rw [if_neg h2] at hx ⊢
  by_cases h3:(z10 o (z1e o s).2 y.1).1 ≠ 0
  ·rw [if_pos h3]; exact h3
  ·rw [if_neg h3] at hx; cases hx
def ztd (W:World) (o:Option Nat) (bd:Nat) (v d:Int) (vg vh:Value) (n:Int) (keep:Bool) (X:Int × MSt × Option (PZ × PZ)):Ending → World → Prop:=fun e W' =>
 e = .returned (.int .i64 X.1) ∧ MV W' o X.2.1 ∧ Gd o bd W W' ∧ ∀ x,X.2.2 = some x → ∃ vq vr,DivAt W' bd (mval o) v d vg vh vq vr (n + 1) keep ∧ PN W.heap.size o bd W' vq x.1 ∧ PN W.heap.size o bd W' vr x.2
theorem zte {W:World} {o:Option Nat} {s:MSt} {bd:Nat} {vg vh vq vr:Value} {v d n:Int} {keep:Bool} {g h q r:PZ} {A B T M:Nat} (D:DivAt W bd (mval o) v d vg vh vq vr n keep) (hM:MV W o s) (hob:∀ b,o = some b → b ≠ bd) (hg:PC o bd W vg g) (hh:PC o bd W vh h) (hq:PC o bd W vq q) (hr:PC o bd W vr r)
  (fg:Fit A T g) (fh:Fit A T h) (fq:Fit B M q) (fr:Fit B M r) (hA:A < 24) (hB:B ≤ 80000) (hT:1 ≤ T) (hTM:2 * T * M ≤ 1000000000000) (hv:1 ≤ v ∧ v ≤ 200) (hd:0 ≤ d) (hdr:d ≤ degP r v) (hn:0 ≤ n ∧ n ≤ 1000000) :
  Calls Tryz.prog 91 #[.pointer (some ⟨bd,0,none⟩)] W (ztd W o bd v d vg vh n keep (z53 o keep g h v d s q r)):=by
 have hmf:∀ (fn:Fn) (first cap:Array Value) (w:World),(Instr.makeFunc fn first cap).run Tryz.prog w = .ok (.func fn first cap) w:=fun _ _ _ _ => rfl
 have hsbd:some bd ≠ o:=fun e => hob bd e.symm rfl
 have HSB:=hid hsbd
 have HOB:=hid hob
 have HD:=hid D
 have C1:=zyl hM
 have CM:=fun (Y:World) (hY:W.grownBy Y o) => ztc (D.same (hY.block bd D.lt hsbd)) (hg.pm.on hY).pv (hh.pm.on hY).pv (hq.pm.on hY).pv (hr.pm.on hY).pv fg fh fq fr hA hB hT hTM hv hd hdr
 have CX:=fun (Y:World) (t:MSt) (hY:MV Y o t) => zt6 hY
 have CK:=fun (Y:World) (t:MSt) (u:Value) (p:PZ) (hY:MV Y o t) (hu:PM o Y u p) => zv3 hY hu
 have HBM:=hid (fun b hb => hM.block (b:=b) hb)
 have HLT:=hid D.lt
 obtain ⟨vm,hvm⟩:∃ x,x = mval o:=⟨_,rfl⟩
 rw [← hvm] at D C1 CX CK
 have HVM:=hid hvm
 have d0:=D.c0
 obtain ⟨n1,n2⟩:=hn
 unfold z53
 generalize hm:z1e o s = m at C1 ⊢
 obtain ⟨c1,s1⟩:=m
 simp only at C1 ⊢
 have HC1:=hid C1
 have HCM:=hid CM
 have HCX:=hid CX
 have HCK:=hid CK
 clear C1 CM CX CK hM hob hg hh hq hr fg fh fq fr hA hB hT hTM hv hd hdr hvm hsbd hm D
 by_cases hc:c1 ≠ 0
 ·rw [if_pos hc]
  have q1:(c1 != 0) = true:=by rw [bne_iff_ne]; exact hc
  clear hc
  go_enter Tryz.func91,Tryz.ntmps91
  go_wp2_with fail
  with_reducible refine HC1.out.mono ?_
  rintro e w1 ⟨rfl,hm1,hg1⟩
  have HM1:=hid hm1
  have HG1:=hid hg1
  clear hm1 hg1
  go_wp2
  all_goals
   go_ret
   exact ⟨rfl,HM1.out,zcx HG1.out,fun x h => (by cases h)⟩
 ·rw [if_neg hc]
  have q1:(c1 != 0) = false:=by rw [bne_eq_false_iff_eq]; exact Decidable.not_not.1 hc
  clear hc
  generalize z4m keep g h v d q r = R at HCM ⊢
  cases R with
  | none =>
   simp only
   go_enter Tryz.func91,Tryz.ntmps91
   go_wp2_with fail
   with_reducible refine HC1.out.mono ?_
   rintro e w1 ⟨rfl,hm1,hg1⟩
   have HM1:=hid hm1
   have HG1:=hid hg1
   have HMA:=hid (HCM.out w1 hg1)
   clear hm1 hg1
   go_wp2_with fail
   with_reducible refine HMA.out.mono ?_
   rintro e w2 ⟨a,b,rfl,hx2⟩
   have HG2:=hid (z1d HG1.out (z11 hx2 o))
   have HX:=hid (HCX.out w2 s1 (HM1.out.ext hx2))
   have e0:w2.cell? ⟨bd,0,none⟩ = some vm:=by rw [HVM.out]; exact (HD.out.same (HG2.out.block bd HLT.out HSB.out)).c0
   clear hx2 d0
   go_wp2_with fail
   with_reducible refine HX.out.mono ?_
   rintro e w3 ⟨rfl,hm3,hg3⟩
   have HM3:=hid hm3
   have HG3:=hid (z1d HG2.out hg3)
   clear hm3 hg3
   go_wp2
   all_goals
    go_ret
    exact ⟨rfl,HM3.out,zcx HG3.out,fun x h => (by cases h)⟩
  | some x =>
   simp only
   generalize hk1:z10 o s1 x.2 = k1
   obtain ⟨c2,s2⟩:=k1
   generalize hk2:z10 o s1 x.1 = k2
   obtain ⟨c3,s3⟩:=k2
   have HK1:=hid hk1
   have HK2:=hid hk2
   have HE1:Hid (c2 = 0 → s2 = s1):=hid (fun h => by have:=z7u (o:=o) (s:=s1) (p:=x.2) (by rw [hk1]; exact h); rw [hk1] at this; exact this)
   have HE2:Hid (c3 = 0 → s3 = s1):=hid (fun h => by have:=z7u (o:=o) (s:=s1) (p:=x.1) (by rw [hk2]; exact h); rw [hk2] at this; exact this)
   simp only
   clear hk1 hk2
   by_cases hc2:c2 ≠ 0
   ·rw [if_pos hc2]
    have q2:(c2 != 0) = true:=by rw [bne_iff_ne]; exact hc2
    clear hc2
    go_enter Tryz.func91,Tryz.ntmps91
    go_wp2_with fail
    with_reducible refine HC1.out.mono ?_
    rintro e w1 ⟨rfl,hm1,hg1⟩
    have HM1:=hid hm1
    have HG1:=hid hg1
    have HMA:=hid (HCM.out w1 hg1)
    clear hm1 hg1
    go_wp2_with fail
    with_reducible refine HMA.out.mono ?_
    rintro e w2 ⟨a,b,rfl,hpa,hpb,hx2⟩
    have HG2:=hid (z1d HG1.out (z11 hx2 o))
    have HB1:=hid (hpb.to (S':=NB o w2) (Kept.refl _ _) (zpj (z9a HG1.out HBM.out)))
    have HK:=HCK.out w2 s1 b x.2 (HM1.out.ext hx2) HB1.out
    rw [HK1.out] at HK
    have HKK:=hid HK
    obtain ⟨aa,ca,rfl⟩:=hpa.form
    obtain ⟨ab,cb,rfl⟩:=hpb.form
    obtain ⟨na,hna⟩:∃ n,n = (ofP x.1).length:=⟨_,rfl⟩
    obtain ⟨nb,hnb⟩:∃ n,n = (ofP x.2).length:=⟨_,rfl⟩
    rw [← hnb] at HKK
    rw [← hna,← hnb]
    have e0:w2.cell? ⟨bd,0,none⟩ = some vm:=by rw [HVM.out]; exact (HD.out.same (HG2.out.block bd HLT.out HSB.out)).c0
    clear hx2 d0 hpa hpb hna hnb HK HB1
    go_wp2_with fail
    with_reducible refine HKK.out.mono ?_
    rintro e w3 ⟨rfl,hm3,hg3⟩
    have HM3:=hid hm3
    have HG3:=hid (z1d HG2.out hg3)
    clear hm3 hg3 e0
    go_wp2
    all_goals
     go_ret
     exact ⟨rfl,HM3.out,zcx HG3.out,fun x h => (by cases h)⟩
   ·rw [if_neg hc2]
    have q2:(c2 != 0) = false:=by rw [bne_eq_false_iff_eq]; exact Decidable.not_not.1 hc2
    have HS2:=hid (HE1.out (Decidable.not_not.1 hc2))
    clear hc2
    by_cases hc3:c3 ≠ 0
    ·rw [if_pos hc3]
     have q3:(c3 != 0) = true:=by rw [bne_iff_ne]; exact hc3
     clear hc3
     go_enter Tryz.func91,Tryz.ntmps91
     go_wp2_with fail
     with_reducible refine HC1.out.mono ?_
     rintro e w1 ⟨rfl,hm1,hg1⟩
     have HM1:=hid hm1
     have HG1:=hid hg1
     have HMA:=hid (HCM.out w1 hg1)
     clear hm1 hg1
     go_wp2_with fail
     with_reducible refine HMA.out.mono ?_
     rintro e w2 ⟨a,b,rfl,hpa,hpb,hx2⟩
     have HG2:=hid (z1d HG1.out (z11 hx2 o))
     have HB1:=hid (hpb.to (S':=NB o w2) (Kept.refl _ _) (zpj (z9a HG1.out HBM.out)))
     have HA1:=hid (hpa.to (S':=NB o w2) (Kept.refl _ _) (zpj (z9a HG1.out HBM.out)))
     have HK:=HCK.out w2 s1 b x.2 (HM1.out.ext hx2) HB1.out
     rw [HK1.out,HS2.out] at HK
     have HKK:=hid HK
     have HKA:=fun (Y:World) (hY:MV Y o s1) (hg:w2.grownBy Y o) => HCK.out Y s1 a x.1 hY (PM.on HA1.out hg)
     rw [HK2.out] at HKA
     obtain ⟨aa,ca,rfl⟩:=hpa.form
     obtain ⟨ab,cb,rfl⟩:=hpb.form
     obtain ⟨na,hna⟩:∃ n,n = (ofP x.1).length:=⟨_,rfl⟩
     obtain ⟨nb,hnb⟩:∃ n,n = (ofP x.2).length:=⟨_,rfl⟩
     rw [← hnb] at HKK
     rw [← hna] at HKA
     have HKB:=hid HKA
     rw [← hna,← hnb]
     have e0:w2.cell? ⟨bd,0,none⟩ = some vm:=by rw [HVM.out]; exact (HD.out.same (HG2.out.block bd HLT.out HSB.out)).c0
     clear hx2 d0 hpa hpb hna hnb HK HB1 HA1 HKA
     go_wp2_with fail
     with_reducible refine HKK.out.mono ?_
     rintro e w3 ⟨rfl,hm3,hg3⟩
     have HKC:=hid (HKB.out w3 hm3 hg3)
     have HG3:=hid (z1d HG2.out hg3)
     clear hm3 hg3 e0
     go_wp2_with fail
     with_reducible refine HKC.out.mono ?_
     rintro e w4 ⟨rfl,hm4,hg4⟩
     have HM4:=hid hm4
     have HG4:=hid (z1d HG3.out hg4)
     clear hm4 hg4
     go_wp2
     all_goals
      go_ret
      exact ⟨rfl,HM4.out,zcx HG4.out,fun x h => (by cases h)⟩
    ·rw [if_neg hc3]
     have q3:(c3 != 0) = false:=by rw [bne_eq_false_iff_eq]; exact Decidable.not_not.1 hc3
     have HS3:=hid (HE2.out (Decidable.not_not.1 hc3))
     clear hc3
     go_enter Tryz.func91,Tryz.ntmps91
     go_wp2_with fail
     with_reducible refine HC1.out.mono ?_
     rintro e w1 ⟨rfl,hm1,hg1⟩
     have HM1:=hid hm1
     have HG1:=hid hg1
     have HMA:=hid (HCM.out w1 hg1)
     clear hm1 hg1
     go_wp2_with fail
     with_reducible refine HMA.out.mono ?_
     rintro e w2 ⟨a,b,rfl,hpa,hpb,hx2⟩
     have HG2:=hid (z1d HG1.out (z11 hx2 o))
     have HB1:=hid (hpb.to (S':=fun k => W.heap.size ≤ k ∧ NC o bd w2 k) (Kept.refl _ _) (fun k hk => ⟨Nat.le_trans HG1.out.size hk.1,zv5 (z9a HG1.out HBM.out) (Nat.lt_of_lt_of_le HLT.out HG1.out.size) k hk⟩))
     have HA1:=hid (hpa.to (S':=fun k => W.heap.size ≤ k ∧ NC o bd w2 k) (Kept.refl _ _) (fun k hk => ⟨Nat.le_trans HG1.out.size hk.1,zv5 (z9a HG1.out HBM.out) (Nat.lt_of_lt_of_le HLT.out HG1.out.size) k hk⟩))
     have HK:=HCK.out w2 s1 b x.2 (HM1.out.ext hx2) (PC.pm (PN.pc HB1.out))
     rw [HK1.out,HS2.out] at HK
     have HKK:=hid HK
     have HKA:=fun (Y:World) (hY:MV Y o s1) (hg:w2.grownBy Y o) => HCK.out Y s1 a x.1 hY (PM.on (PC.pm (PN.pc HA1.out)) hg)
     rw [HK2.out,HS3.out] at HKA
     obtain ⟨aa,ca,rfl⟩:=hpa.form
     obtain ⟨ab,cb,rfl⟩:=hpb.form
     obtain ⟨na,hna⟩:∃ n,n = (ofP x.1).length:=⟨_,rfl⟩
     obtain ⟨nb,hnb⟩:∃ n,n = (ofP x.2).length:=⟨_,rfl⟩
     rw [← hnb] at HKK HB1
     rw [← hna] at HKA HA1
     have HKB:=hid HKA
     rw [← hna,← hnb]
     have e0:w2.cell? ⟨bd,0,none⟩ = some vm:=by rw [HVM.out]; exact (HD.out.same (HG2.out.block bd HLT.out HSB.out)).c0
     clear hx2 d0 hpa hpb hna hnb HK HKA
     go_wp2_with fail
     with_reducible refine HKK.out.mono ?_
     rintro e w3 ⟨rfl,hm3,hg3⟩
     have HKC:=hid (HKB.out w3 hm3 hg3)
     have HG3:=hid (z1d HG2.out hg3)
     have HG23:=hid hg3
     clear hm3 hg3 e0
     go_wp2_with fail
     with_reducible refine HKC.out.mono ?_
     rintro e w4 ⟨rfl,hm4,hg4⟩
     have HM4:=hid hm4
     have HG4:=hid (z1d HG3.out hg4)
     have HA4:=hid (PN.on HA1.out (zcx (z1d HG23.out hg4)))
     have HB4:=hid (PN.on HB1.out (zcx (z1d HG23.out hg4)))
     have HD4:=hid (HD.out.same (HG4.out.block bd HLT.out HSB.out))
     have e7:=HD4.out.c7
     have e5:=HD4.out.c5
     have e6:=HD4.out.c6
     have z5:=HD4.out.fz 5
     have z6:=HD4.out.fz 6
     have z7:=HD4.out.fz 7
     have HE5:=hid e5
     have HE6:=hid e6
     have HE7:=hid e7
     clear hm4 hg4
     go_wp2
     all_goals
      go_ret
      obtain ⟨W5,hW5⟩:∃ X,X = w4.setCell ⟨bd,5,none⟩ (.slice aa na ca):=⟨_,rfl⟩
      obtain ⟨W6,hW6⟩:∃ X,X = W5.setCell ⟨bd,6,none⟩ (.slice ab nb cb):=⟨_,rfl⟩
      obtain ⟨W7,hW7⟩:∃ X,X = W6.setCell ⟨bd,7,none⟩ (.int .i64 (n + 1)):=⟨_,rfl⟩
      rw [← hW5,← hW6,← hW7]
      have k5:∀ (i:Nat) (u:Value),i ≠ 5 → w4.cell? ⟨bd,i,none⟩ = some u → W5.cell? ⟨bd,i,none⟩ = some u:=fun i u h5 h => by rw [hW5]; exact z09 h (ao (fun e => h5 e.symm))
      have k6:∀ (i:Nat) (u:Value),i ≠ 6 → W5.cell? ⟨bd,i,none⟩ = some u → W6.cell? ⟨bd,i,none⟩ = some u:=fun i u h5 h => by rw [hW6]; exact z09 h (ao (fun e => h5 e.symm))
      have k7:∀ (i:Nat) (u:Value),i ≠ 7 → W6.cell? ⟨bd,i,none⟩ = some u → W7.cell? ⟨bd,i,none⟩ = some u:=fun i u h5 h => by rw [hW7]; exact z09 h (ao (fun e => h5 e.symm))
      have m5:W5.cell? ⟨bd,5,none⟩ = some (.slice aa na ca):=by rw [hW5]; exact z1h HE5.out
      have m6:W6.cell? ⟨bd,6,none⟩ = some (.slice ab nb cb):=by rw [hW6]; exact z1h (k5 6 _ (by decide) HE6.out)
      have m7:W7.cell? ⟨bd,7,none⟩ = some (.int .i64 (n + 1)):=by rw [hW7]; exact z1h (k6 7 _ (by decide) (k5 7 _ (by decide) HE7.out))
      have g5:Gd o bd w4 W5:=by rw [hW5]; exact zae w4 (a:=⟨bd,5,none⟩) rfl _
      have g6:Gd o bd W5 W6:=by rw [hW6]; exact zae W5 (a:=⟨bd,6,none⟩) rfl _
      have g7:Gd o bd W6 W7:=by rw [hW7]; exact zae W6 (a:=⟨bd,7,none⟩) rfl _
      have v5:MV W5 o s1:=by rw [hW5]; exact HM4.out.set HOB.out (a:=⟨bd,5,none⟩) rfl _
      have v6:MV W6 o s1:=by rw [hW6]; exact v5.set HOB.out (a:=⟨bd,6,none⟩) rfl _
      have v7:MV W7 o s1:=by rw [hW7]; exact v6.set HOB.out (a:=⟨bd,7,none⟩) rfl _
      have fz:∀ i,W7.frozen? ⟨bd,i,none⟩ = false:=fun i => by rw [hW7]; refine z16 ?_; rw [hW6]; refine z16 ?_; rw [hW5]; exact z16 (HD4.out.fz i)
      have gs:Gd o bd w4 W7:=(g5.trans g6).trans g7
      have kk:∀ (i:Nat) (u:Value),i ≠ 5 → i ≠ 6 → i ≠ 7 → w4.cell? ⟨bd,i,none⟩ = some u → W7.cell? ⟨bd,i,none⟩ = some u:=fun i u h5 h6 h7 h => k7 i u h7 (k6 i u h6 (k5 i u h5 h))
      have D7:DivAt W7 bd (mval o) v d vg vh (.slice aa na ca) (.slice ab nb cb) (n + 1) keep :=
       ⟨kk 0 _ (by decide) (by decide) (by decide) HD4.out.c0,kk 1 _ (by decide) (by decide) (by decide) HD4.out.c1,kk 2 _ (by decide) (by decide) (by decide) HD4.out.c2,kk 3 _ (by decide) (by decide) (by decide) HD4.out.c3,kk 4 _ (by decide) (by decide) (by decide) HD4.out.c4,k7 5 _ (by decide) (k6 5 _ (by decide) m5),k7 6 _ (by decide) m6,m7,kk 8 _ (by decide) (by decide) (by decide) HD4.out.c8,fz⟩
      refine ⟨rfl,v7,(zcx HG4.out).trans gs,fun y hy => ?_⟩
      obtain rfl:x = y:=Option.some.inj hy
      exact ⟨_,_,D7,PN.on HA4.out gs,PN.on HB4.out gs⟩
end
section
section
variable {g f:PZ} {v:Int}
def divD (o:Option Nat) (keep:Bool) (s:MSt) (f g:PZ) (v:Int):DRes:=runD o keep g (z17 g v) v (degP g v) ((degP f v).toNat + 1) s [] f 0
theorem zpp {o:Option Nat} {keep:Bool} {d:Int} {h:PZ}:∀ (k:Nat) (s:MSt) (q r:PZ) (n:Nat),
  (runD o keep g h v d k s q r n).e = 0 ∨ ((runD o keep g h v d k s q r n).q = [] ∧ (runD o keep g h v d k s q r n).r = [] ∧ (runD o keep g h v d k s q r n).n = 0):=by
 intro k
 induction k with
 | zero => intros; exact .inl rfl
 | succ k ih =>
  intro s q r n
  rw [runD]
  split
  ·exact .inl rfl
  split
  ·exact .inr ⟨rfl,rfl,rfl⟩
  split
  ·exact .inr ⟨rfl,rfl,rfl⟩
  split
  ·exact .inr ⟨rfl,rfl,rfl⟩
  split
  ·exact .inr ⟨rfl,rfl,rfl⟩
  ·exact ih _ _ _ _
/-! By a meter as without one -/
end
end
section
section
variable {a b c:PZ}
end
section
variable {p g f:PZ} {v:Int}
end
end
section
def powN (h:PZ):Nat → Option PZ
 | 0 => some [(1,[])]
 | n + 1 => match powN h n with
  | none => none
  | some p => z0g p h
theorem zig {h:PZ} {G:Int} (ch:canP h) (eh:exB G h) (hG:0 ≤ G):∀ n:Nat,(n:Int) * G ≤ 10000 → ∃ P,powN h n = some P ∧ canP P ∧ Eqv P (hpow h n) ∧ exB ((n:Int) * G) P
 | 0,_ => ⟨[(1,[])],rfl,z7v,Eqv.refl _,fun t ht u => by rw [List.mem_singleton.1 ht]; show ex [] u ≤ _; simp [ex]⟩
 | n + 1,hn => by
  have e1:((n + 1:Nat):Int) * G = n * G + G:=by rw [Int.natCast_add,Int.add_mul,show ((1:Nat):Int) = 1 from rfl,Int.one_mul]
  rw [e1] at hn ⊢
  obtain ⟨P,c0,c1,c2,c3⟩:=zig ch eh hG n (by omega)
  obtain ⟨Q,hQ,d1,d2,d3,-⟩:=c3.times eh c1 ch hn
  exact ⟨Q,by rw [powN,c0]; exact hQ,d1,d3.trans (Eqv.mul c2 (Eqv.refl h)),d2⟩
theorem ztf:Fit 1 1 [((1:Int),([]:Mono))]:=⟨z7v,fun t ht => by rw [List.mem_singleton.1 ht]; show (1:Int).natAbs < _; decide,Nat.le_refl _⟩
theorem zeo {h:PZ} {A T:Nat} (fh:Fit A T h) (hT:1 ≤ T):∀ (n:Nat) (P:PZ),T ^ n ≤ 1000000000000 → powN h n = some P → Fit (1 + n * (A + 2)) (T ^ n) P
 | 0,P,_,hP => by
  have e:some [((1:Int),([]:Mono))] = some P:=hP
  cases e
  exact ztf.mono (by omega) (Nat.le_refl _)
 | n + 1,P,hn,hP => by
  have h1:T ^ n ≤ T ^ (n + 1):=Nat.pow_le_pow_right hT (Nat.le_succ n)
  rw [powN] at hP
  cases hp:powN h n with
  | none => rw [hp] at hP; cases hP
  | some p =>
   rw [hp] at hP
   have f1:=zeo fh hT n p (Nat.le_trans h1 hn) hp
   have f2:=f1.times fh hP (by rw [← Nat.pow_succ]; exact hn)
   exact f2.mono (by rw [Nat.add_mul]; omega) (by rw [Nat.pow_succ]; exact Nat.le_refl _)
section
variable {g f h q r:PZ} {v d:Int} {o:Option Nat} {keep:Bool} {B M:Nat}
theorem z5i.now:∀ {k:Nat} {s:MSt} {q r:PZ},z5i o keep g h v d B M k s q r → Fit B M q ∧ Fit B M r
 | 0,_,_,_,h => h
 | _ + 1,_,_,_,h => ⟨h.1,h.2.1⟩
theorem zwy:∀ (k:Nat) (s:MSt) (q r:PZ) (n:Nat),z5i o keep g h v d B M k s q r →
  Fit B M (runD o keep g h v d k s q r n).q ∧ Fit B M (runD o keep g h v d k s q r n).r:=by
 intro k
 induction k with
 | zero => intro s q r n h; exact h
 | succ k ih =>
  intro s q r n hF
  obtain ⟨h1,h2,hF⟩:=hF
  have fn:Fit B M []:=z8h.mono (Nat.zero_le _) (Nat.zero_le _)
  rw [runD]
  by_cases hx:r = [] ∨ degP r v < d
  ·rw [if_pos hx]; exact ⟨h1,h2⟩
  rw [if_neg hx]
  by_cases g1:(z1e o s).1 ≠ 0
  ·rw [if_pos g1]; exact ⟨fn,fn⟩
  rw [if_neg g1]
  cases hst:z4m keep g h v d q r with
  | none => exact ⟨fn,fn⟩
  | some x =>
   simp only
   by_cases g2:(z10 o (z1e o s).2 x.2).1 ≠ 0
   ·rw [if_pos g2]; exact ⟨fn,fn⟩
   rw [if_neg g2]
   by_cases g3:(z10 o (z1e o s).2 x.1).1 ≠ 0
   ·rw [if_pos g3]; exact ⟨fn,fn⟩
   rw [if_neg g3]
   have hr0:r ≠ []:=fun e => hx (.inl e)
   have hdr:d ≤ degP r v:=by
    rcases Int.lt_or_le (degP r v) d with h | h
    ·exact absurd (.inr h) hx
    ·exact h
   exact ih _ _ _ _ (hF hr0 hdr (Decidable.not_not.1 g1) x hst (Decidable.not_not.1 g2) (Decidable.not_not.1 g3))
end
end
section
open Go.RowKit
def zpq (W:World) (vm:Value) (v d:Int) (vg:Value) (h f:PZ) (keep:Bool):Ending → World → Prop:=fun e W' =>
 ∃ bd vh vr,e = .returned (.tuple #[.pointer (some ⟨bd,0,none⟩),.int .i64 0]) ∧ W.heap.size ≤ bd ∧ DivAt W' bd vm v d vg vh (.slice none 0 0) vr 0 keep ∧
  z06 (fun k => New W W' k ∧ k ≠ bd) W' vh (ofP h) ∧ z06 (fun k => New W W' k ∧ k ≠ bd) W' vr (ofP f) ∧ Ext W W'
theorem zpr {W:World} {vm vf vg:Value} {v:Int} {keep:Bool} {f g:PZ} {A B T M:Nat} (hvm:∃ a,vm = .pointer a) (hf:PV W vf f) (hg:PV W vg g) (ff:Fit B M f) (fg:Fit A T g) (hA:A ≤ 1000000) (hB:B ≤ 1000000) (hT:T ≤ 1000000000000) (hM:M ≤ 1000000000000) (hv:1 ≤ v ∧ v ≤ 200) (hd:1 ≤ degP g v) :
  Calls Tryz.prog 90 #[vm,vf,vg,.int .i64 v,.bool keep] W (zpq W vm v (degP g v) vg (z17 g v) f keep):=by
 have hnot:∀ (x:Bool) (w:World),(Op.unary .not (.bool x)).run Tryz.prog w = .ok (.bool (!x)) w:=fun _ _ => rfl
 obtain ⟨pa,rfl⟩:=hvm
 have HX0:=hid (Ext.refl W)
 have hr:=z18 fg.can.may v
 have C1:=hid (zlo hf ff hB)
 have C2:=hid (fun (Y:World) (hY:Ext W Y) => zlo (z06.on hg hY) fg hA)
 have C3:=hid (fun (Y:World) (hY:Ext W Y) => zas (z06.on hg hY) fg hA (x:=v) (by unfold z1v; omega))
 have C4:=fun (Y:World) (hY:Ext W Y) => zpd (z06.on hf hY) (z06.nilv (Old Y) Y none 0 (by decide)) ff z8h hB (by decide) (by omega)
 rw [List.append_nil,z5a ff.can] at C4
 have HC4:=hid C4
 have C5:=hid (fun (Y:World) (hY:Ext W Y) => zv4 (z06.on hg hY) fg hA hT hv)
 obtain ⟨af,cf,rfl⟩:=hf.form
 obtain ⟨ag,cg,rfl⟩:=hg.form
 obtain ⟨nf,hnf⟩:∃ n,n = (ofP f).length:=⟨_,rfl⟩
 obtain ⟨ng,hng⟩:∃ n,n = (ofP g).length:=⟨_,rfl⟩
 obtain ⟨nh,hnh⟩:∃ n,n = (ofP (z17 g v)).length:=⟨_,rfl⟩
 have HNH:=hid hnh
 have HNF:=hid hnf
 rw [← hnf] at C1 HC4 ⊢
 rw [← hng] at C2 C3 C5 ⊢
 obtain ⟨d,hd2⟩:∃ d,d = degP g v:=⟨_,rfl⟩
 rw [← hd2] at C3 hd hr ⊢
 have q1:decide (v < 1) = false:=decide_eq_false (by omega)
 have q2:decide (200 < v) = false:=decide_eq_false (by omega)
 have q3:decide (d < 1) = false:=decide_eq_false (by omega)
 clear hf hg ff fg C4 hnf hng hnh hd2
 go_enter Tryz.func90,Tryz.ntmps90
 go_wp2_with fail
 with_reducible refine C1.out.mono ?_
 rintro e w1 ⟨rfl,hx1⟩
 have HX1:=hid hx1
 have D2:=hid (C2.out w1 hx1)
 clear hx1
 go_wp2_with fail
 with_reducible refine D2.out.mono ?_
 rintro e w2 ⟨rfl,hx2⟩
 have HX2:=hid (HX1.out.trans hx2)
 have D3:=hid (C3.out w2 HX2.out)
 clear hx2
 go_wp2_with fail
 with_reducible refine D3.out.mono ?_
 rintro e w3 ⟨rfl,hx3⟩
 have HX3:=hid (HX2.out.trans hx3)
 have D4:=hid (HC4.out w3 HX3.out)
 clear hx3
 go_wp2_with fail
 with_reducible refine D4.out.mono ?_
 rintro e w4 ⟨v4,rfl,hp4,hx4⟩
 have HX4:=hid (HX3.out.trans hx4)
 have HP4:=hid (hp4.to (S':=New W w4) (Kept.refl _ _) (fun k h => ⟨Nat.le_trans HX3.out.size h.1,h.2⟩))
 have D5:=hid (C3.out w4 HX4.out)
 obtain ⟨a4,c4,rfl⟩:=hp4.form
 rw [← HNF.out] at HP4
 rw [← HNF.out]
 clear hx4 hp4
 go_wp2_with fail
 with_reducible refine D5.out.mono ?_
 rintro e w5 ⟨rfl,hx5⟩
 have HX5:=hid (HX4.out.trans hx5)
 have HX45:=hid hx5
 have D6:=hid (C5.out w5 HX5.out)
 clear hx5
 go_wp2_with fail
 with_reducible refine D6.out.mono ?_
 rintro e w6 ⟨v6,rfl,hp6,hx6⟩
 have HX6:=hid (HX5.out.trans hx6)
 have HX46:=hid (HX45.out.trans hx6)
 have HP6:=hid (hp6.to (S':=New W w6) (Kept.refl _ _) (fun k h => ⟨Nat.le_trans HX5.out.size h.1,h.2⟩))
 obtain ⟨a6,c6,rfl⟩:=hp6.form
 rw [← HNH.out] at HP6
 rw [← HNH.out]
 clear hx6 hp6
 go_wp2
 all_goals
  go_ret2
  have hx7:Ext w6 (w6.alloc (.cells #[.pointer pa,.int .i64 v,.int .i64 d,.slice ag ng cg,.slice a6 nh c6,.slice none 0 0,.slice a4 nf c4,.int .i64 0,.bool keep] 130)):=Ext.alloc (Ext.refl w6) _
  have hs:w6.heap.size < (w6.alloc (.cells #[.pointer pa,.int .i64 v,.int .i64 d,.slice ag ng cg,.slice a6 nh c6,.slice none 0 0,.slice a4 nf c4,.int .i64 0,.bool keep] 130)).heap.size:=by rw [z02]; omega
  refine ⟨w6.heap.size,.slice a6 nh c6,.slice a4 nf c4,rfl,HX6.out.size,⟨z04 _ _ _ rfl rfl,z04 _ _ _ rfl rfl,z04 _ _ _ rfl rfl,z04 _ _ _ rfl rfl,z04 _ _ _ rfl rfl,z04 _ _ _ rfl rfl,z04 _ _ _ rfl rfl,z04 _ _ _ rfl rfl,z04 _ _ _ rfl rfl,fun i => z56 _ _ _⟩,?_,?_,HX6.out.trans hx7⟩
  ·exact HP6.out.to (Kept.ext hx7 (fun _ h => h.2)) (fun k h => ⟨⟨h.1,Nat.lt_trans h.2 hs⟩,by have:=h.2; omega⟩)
  ·exact HP4.out.to (Kept.ext (HX46.out.trans hx7) (fun _ h => h.2)) (fun k h => ⟨⟨h.1,Nat.lt_of_lt_of_le h.2 (Nat.le_trans HX46.out.size (Nat.le_of_lt hs))⟩,by have:=h.2; have:=HX46.out.size; omega⟩)
end
end Go.Proofs.YtdcijfhkfhhfjaaGreat
