/- The document: which polynomials may be. The document: out of terms, sums, a number, a variable, too great. The document: a polynomial as data. The document: a number, a variable, as polynomials. Slices of polynomials in memory. What the law knows. The document: the other sign, the difference. Coefficients, initial, tail and derivative of polynomials. Plain. What is made of two monomials, exponent by exponent; products of monomials. Plain. The document's product of monomials is the program's. Plain. The document: a monomial without a variable. append to a slice without room: a copy in memory of its own. Stable merges of two lists, and the stable sort of a list by merges. Plain. A row of memory that is sorted in place: what the worlds of a sort are. -/
import Derived.Test.YtdcijfhkfhhfjaaGreatProg
import Derived.Shelf.SlSortFuncK.RowK2
import Derived.Shelf.SlicesQ.Reverse
import Derived.Test.YtdcijfhkfhhfjaaGreatPt3
set_option maxRecDepth 100000
set_option maxHeartbeats 16000000
namespace Go.Proofs.YtdcijfhkfhhfjaaGreat
section
open Go.RowKit
end
section
open Go.RowKit
def RTs (S:Nat → Prop) (w:World) (v:Value) (p:PZ):Prop :=
 ∃ b off,z3a S v p.length b off ∧ ∀ j t,p[j]? = some t → ∃ vd vo,w.cell? ⟨b,off + j * 3,none⟩ = some (.bool (decide (t.1 < 0))) ∧
  w.cell? ⟨b,off + j * 3 + 1,none⟩ = some vd ∧ w.cell? ⟨b,off + j * 3 + 2,none⟩ = some vo ∧ Digs S w vd (rep 10 t.1.natAbs) ∧ Pows S w vo t.2
section
variable {S S':Nat → Prop} {w w':World} {v:Value} {p:PZ}
theorem RTs.form (h:RTs S w v p):∃ a cap,v = .slice a p.length cap:=by
 obtain ⟨b,off,⟨a,cap,h1,_⟩,_⟩:=h
 exact ⟨a,cap,h1⟩
theorem RTs.to (h:RTs S w v p) (hk:Kept S w w') (hS:∀ k,S k → S' k):RTs S' w' v p:=by
 obtain ⟨b,off,hs,hc⟩:=h
 refine ⟨b,off,hs.mono hS,fun j t hj => ?_⟩
 obtain ⟨vm,vo,h1,h2,h3,h4,h5⟩:=hc j t hj
 have hb:=hs.in (z05 hj)
 exact ⟨vm,vo,hk.cell hb h1,hk.cell hb h2,hk.cell hb h3,h4.to hk hS,h5.to hk hS⟩
theorem RTs.ext (h:RTs S w v p) (hx:Ext w w') (hS:∀ k,S k → k < w.heap.size):RTs S w' v p:=h.to (Kept.ext hx hS) (fun _ h => h)
theorem RTs.len_le (h:RTs S w v p):p.length ≤ 9223372036854775807:=by
 obtain ⟨b,off,⟨a,cap,h1,h2,h3,_⟩,_⟩:=h
 unfold maxLen at h3
 omega
theorem RTs.cellAt {a:Option Addr} {n cap k:Nat} {t:Int × Mono} (h:RTs S w (.slice a n cap) p) (ht:p[k]? = some t) :
  ∃ b off vd vo,a = some ⟨b,off,none⟩ ∧ n = p.length ∧ n ≤ cap ∧ cap ≤ 9223372036854775807 ∧ S b ∧ w.cell? ⟨b,off + k * 3,none⟩ = some (.bool (decide (t.1 < 0))) ∧ w.cell? ⟨b,off + k * 3 + 1,none⟩ = some vd ∧ w.cell? ⟨b,off + k * 3 + 2,none⟩ = some vo ∧ Digs S w vd (rep 10 t.1.natAbs) ∧ Pows S w vo t.2:=by
 obtain ⟨b,off,⟨a',cap',h1,h2,h3,h4,h5⟩,hc⟩:=h
 obtain ⟨rfl,rfl,rfl⟩:a = a' ∧ n = p.length ∧ cap = cap':=by simpa using h1
 have hp:0 < p.length:=by have:=z05 ht; omega
 obtain ⟨vm,vo,g1,g2,g3,g4,g5⟩:=hc k t ht
 exact ⟨b,off,vm,vo,h4 hp,rfl,h2,h3,h5 hp,g1,g2,g3,g4,g5⟩
theorem RTs.nilv (S:Nat → Prop) (w:World) (a:Option Addr) (cap:Nat) (h:cap ≤ 9223372036854775807):RTs S w (.slice a 0 cap) [] :=
 ⟨0,0,⟨a,cap,rfl,Nat.zero_le _,h,fun h => absurd h (Nat.lt_irrefl 0),fun h => absurd h (Nat.lt_irrefl 0)⟩,fun j t hj => by simp at hj⟩
end
def z1q (S:Nat → Prop) (w:World):List Value → PZ → Prop
 | xs,[] => xs = []
 | xs,t :: r => ∃ vd vo ys,xs = .bool (decide (t.1 < 0)) :: vd :: vo :: ys ∧ Digs S w vd (rep 10 t.1.natAbs) ∧ Pows S w vo t.2 ∧ z1q S w ys r
section
variable {S S':Nat → Prop} {w w':World}
theorem z1q.append {xs ys:List Value} {p q:PZ} (h:z1q S w xs p) (k:z1q S w ys q):z1q S w (xs ++ ys) (p ++ q):=by
 induction p generalizing xs with
 | nil =>
  have e:xs = []:=h
  subst e
  exact k
 | cons t r ih =>
  obtain ⟨vd,vo,zs,rfl,h1,h2,h3⟩:=h
  exact ⟨vd,vo,zs ++ ys,rfl,h1,h2,ih h3⟩
theorem z1q.to {xs:List Value} {p:PZ} (h:z1q S w xs p) (hk:Kept S w w') (hS:∀ k,S k → S' k):z1q S' w' xs p:=by
 induction p generalizing xs with
 | nil => exact h
 | cons t r ih =>
  obtain ⟨vd,vo,zs,rfl,h1,h2,h3⟩:=h
  exact ⟨vd,vo,zs,rfl,h1.to hk hS,h2.to hk hS,ih h3⟩
theorem z1q.length {xs:List Value} {p:PZ} (h:z1q S w xs p):xs.length = p.length * 3:=by
 induction p generalizing xs with
 | nil =>
  have e:xs = []:=h
  subst e
  rfl
 | cons t r ih =>
  obtain ⟨vd,vo,zs,rfl,h1,h2,h3⟩:=h
  simp only [List.length_cons,ih h3]
  omega
theorem z1q.get {xs:List Value} {p:PZ} (h:z1q S w xs p) {j:Nat} {t:Int × Mono} (ht:p[j]? = some t) :
  ∃ vd vo,xs[j * 3]? = some (.bool (decide (t.1 < 0))) ∧ xs[j * 3 + 1]? = some vd ∧ xs[j * 3 + 2]? = some vo ∧ Digs S w vd (rep 10 t.1.natAbs) ∧ Pows S w vo t.2:=by
 induction p generalizing xs j with
 | nil => simp at ht
 | cons u r ih =>
  obtain ⟨vd,vo,zs,rfl,h1,h2,h3⟩:=h
  cases j with
  | zero =>
   obtain rfl:u = t:=by simpa using ht
   exact ⟨vd,vo,rfl,rfl,rfl,h1,h2⟩
  | succ j =>
   obtain ⟨vd',vo',g⟩:=ih h3 (j:=j) (by simpa using ht)
   refine ⟨vd',vo',?_⟩
   rw [show (j + 1) * 3 = j * 3 + 1 + 1 + 1 by omega]
   simpa using g
theorem z1q.one {xs:List Value} {p:PZ} (h:z1q S w xs p):∀ u ∈ xs,u.oneCell' = true:=by
 induction p generalizing xs with
 | nil =>
  have e:xs = []:=h
  subst e
  intro u hu
  simp at hu
 | cons t r ih =>
  obtain ⟨vd,vo,zs,rfl,h1,h2,h3⟩:=h
  intro u hu
  simp only [List.mem_cons] at hu
  rcases hu with rfl | rfl | rfl | hu
  ·rfl
  ·obtain ⟨a,c,rfl⟩:=h1.form; rfl
  ·obtain ⟨a,c,rfl⟩:=h2.form; rfl
  ·exact ih h3 u hu
theorem z1q.single {vd vo:Value} {t:Int × Mono} (h1:Digs S w vd (rep 10 t.1.natAbs)) (h2:Pows S w vo t.2):z1q S w [.bool (decide (t.1 < 0)),vd,vo] [t]:=⟨vd,vo,[],rfl,h1,h2,rfl⟩
end
theorem zna {S:Nat → Prop} {w:World} {base:Nat} {e:TypeId} {v:Value} {xs:List Value} {p:PZ} (h:w.ownsRow base e 3 v p.length xs) (hc:z1q S w xs p) (hB:∀ k,base ≤ k → k < w.heap.size → S k):RTs S w v p:=by
 have hlt:=h.lt
 rcases h.2 with ⟨rfl,h0⟩ | ⟨g,cap,cur,rfl,hg,hh,h1,h2,h3,h4⟩
 ·obtain rfl:p = []:=List.length_eq_zero_iff.1 h0
  exact RTs.nilv _ _ _ _ (by omega)
 ·refine ⟨g,0,⟨_,cap,rfl,h1,h2,fun _ => rfl,fun _ => hB g (hlt g rfl).1 (hlt g rfl).2⟩,fun j t hj => ?_⟩
  obtain ⟨vd,vo,g1,g2,g3,g4,g5⟩:=hc.get hj
  have hb:=z05 hj
  refine ⟨vd,vo,?_,?_,?_,g4,g5⟩
  ·rw [h.cellAt (0 + j * 3) (by omega),Nat.zero_add]
   exact g1
  ·rw [h.cellAt (0 + j * 3 + 1) (by omega),Nat.zero_add]
   exact g2
  ·rw [h.cellAt (0 + j * 3 + 2) (by omega),Nat.zero_add]
   exact g3
theorem zd7 {S:Nat → Prop} {w:World} {b:Nat}:∀ (p:PZ) (off:Nat),(∀ j t,p[j]? = some t → ∃ vd vo,w.cell? ⟨b,off + j * 3,none⟩ = some (.bool (decide (t.1 < 0))) ∧
  w.cell? ⟨b,off + j * 3 + 1,none⟩ = some vd ∧ w.cell? ⟨b,off + j * 3 + 2,none⟩ = some vo ∧ Digs S w vd (rep 10 t.1.natAbs) ∧ Pows S w vo t.2) →
  ∃ xs,z1q S w xs p ∧ ∀ j u,xs[j]? = some u → w.cell? ⟨b,off + j,none⟩ = some u
 | [],_,_ => ⟨[],rfl,fun j u hu => by simp at hu⟩
 | t :: r,off,h => by
  obtain ⟨vd,vo,h1,h2,h3,h4,h5⟩:=h 0 t rfl
  obtain ⟨ys,k1,k2⟩:=zd7 r (off + 3) (fun j u hu => by
   have:=h (j + 1) u (by simpa using hu)
   rw [show off + (j + 1) * 3 = off + 3 + j * 3 by omega] at this
   exact this)
  refine ⟨_,⟨vd,vo,ys,rfl,h4,h5,k1⟩,fun j u hu => ?_⟩
  match j,hu with
  | 0,hu =>
   have e:_ = u:=Option.some.inj hu
   rw [← e]
   exact h1
  | 1,hu =>
   have e:_ = u:=Option.some.inj hu
   rw [← e]
   exact h2
  | 2,hu =>
   have e:_ = u:=Option.some.inj hu
   rw [← e]
   exact h3
  | j + 3,hu =>
   have:=k2 j u (by simpa using hu)
   rw [show off + (j + 3) = off + 3 + j by omega]
   exact this
theorem RTs.src {S:Nat → Prop} {w:World} {b off n cap k:Nat} {p:PZ} (h:RTs S w (.slice (some ⟨b,off,none⟩) n cap) p) (hk:k ≤ p.length) :
  ∃ news,zcs w (some ⟨b,off + k * 3,none⟩) (p.length - k) 3 news ∧ z1q S w news (p.drop k):=by
 obtain ⟨b',off',⟨a',cap',h1,h2,h3,h4,h5⟩,hc⟩:=h
 by_cases h0:0 < p.length
 ·have e:=h4 h0
  obtain ⟨e1,-,-⟩:some (⟨b,off,none⟩:Addr) = a' ∧ n = p.length ∧ cap = cap':=by simpa using h1
  rw [← e1] at e
  obtain ⟨rfl,rfl⟩:b = b' ∧ off = off':=by simpa using e
  obtain ⟨xs,k1,k2⟩:=zd7 (S:=S) (w:=w) (b:=b) (p.drop k) (off + k * 3) (fun j t hj => by
   rw [List.getElem?_drop] at hj
   have:=hc (k + j) t hj
   rw [show off + (k + j) * 3 = off + k * 3 + j * 3 by omega] at this
   exact this)
  refine ⟨xs,⟨?_,k1.one,fun _ => ⟨_,rfl,fun j u hu => ?_⟩⟩,k1⟩
  ·rw [k1.length,List.length_drop]
  ·rw [z8d]
   exact k2 j u hu
 ·obtain rfl:p = []:=List.length_eq_zero_iff.1 (by omega)
  refine ⟨[],⟨by simp,fun u hu => by simp at hu,fun hh => by simp at hh⟩,?_⟩
  rw [List.drop_nil]
  rfl
theorem z7i {p:PZ} {c:Int} {m:Mono}:∀ {k:Nat},(∀ j t,j < k → p[j]? = some t → z0e t.2 m = 1) → putP p c m = p.take k ++ putP (p.drop k) c m
 | 0,_ => rfl
 | k + 1,h => by
  cases p with
  | nil => simp
  | cons t r =>
   have h0:=h 0 t (by omega) rfl
   have ih:=z7i (p:=r) (c:=c) (m:=m) (k:=k) (fun j u hj hu => h (j + 1) u (by omega) (by simpa using hu))
   simp only [putP,h0,if_true,List.take_succ_cons,List.drop_succ_cons,List.cons_append,ih]
def midP (c:Int) (m:Mono):PZ:=if c = 0 then [] else [(c,m)]
theorem zw0 {p:PZ} {c:Int} {m:Mono} {k:Nat} (h:∀ j t,j < k → p[j]? = some t → z0e t.2 m = 1) (hk:k = p.length):putP p c m = p.take k ++ midP c m ++ p.drop k:=by
 rw [z7i h,hk,List.drop_length]
 simp [putP,midP]
theorem zrr {p:PZ} {c:Int} {m:Mono} {k:Nat} {t:Int × Mono} (h:∀ j t,j < k → p[j]? = some t → z0e t.2 m = 1) (ht:p[k]? = some t) (hc:z0e t.2 m = 0):putP p c m = p.take k ++ midP (c + t.1) m ++ p.drop (k + 1):=by
 rw [z7i h,z6n ht,List.append_assoc]
 simp only [putP,hc,midP,if_true]
 rw [if_neg (by decide)]
 split <;> rfl
theorem zrs {p:PZ} {c:Int} {m:Mono} {k:Nat} {t:Int × Mono} (h:∀ j t,j < k → p[j]? = some t → z0e t.2 m = 1) (ht:p[k]? = some t) (h1:z0e t.2 m ≠ 1) (h2:z0e t.2 m ≠ 0):putP p c m = p.take k ++ midP c m ++ p.drop k:=by
 rw [z7i h,z6n ht,List.append_assoc]
 simp only [putP,midP]
 rw [if_neg h1,if_neg h2]
 split <;> rfl
theorem zbc {c:Int} (h:c = 0) (m:Mono):midP c m = []:=by unfold midP; rw [if_pos h]
theorem zbd {c:Int} (h:c ≠ 0) (m:Mono):midP c m = [(c,m)]:=by unfold midP; rw [if_neg h]
theorem Tryz.infoT:(Tryz.prog.info? 105).map (fun i => (i.zero,i.size,i.bytes)) = some (some (.agg #[.bool false,.slice none 0 0,.slice none 0 0]),3,56):=by kernel_rfl
theorem z2f {u v x:Value} (h:u.oneCell' = true) (k:v.oneCell' = true) (l:x.oneCell' = true):∀ y ∈ (#[u,v,x]:Array Value).toList,y.oneCell' = true:=by
 intro y hy
 simp at hy
 rcases hy with rfl | rfl | rfl <;> assumption
end
section
open Go.RowKit
abbrev Old (w:World):Nat → Prop:=fun k => k < w.heap.size
theorem zbe {w W:World} (h:Ext w W):∀ k,Old w k → k < W.heap.size:=fun _ hk => Nat.lt_of_lt_of_le hk h.size
theorem RTs.on {w W:World} {v:Value} {p:PZ} (h:RTs (Old w) w v p) (hx:Ext w W):RTs (Old W) W v p:=h.to (Kept.ext hx (fun _ h => h)) (zbe hx)
theorem Pows.on {w W:World} {v:Value} {z:Mono} (h:Pows (Old w) w v z) (hx:Ext w W):Pows (Old W) W v z:=h.to (Kept.ext hx (fun _ h => h)) (zbe hx)
def szP (p:PZ):Prop:=p.length ≤ 1000000000000 ∧ ∀ t ∈ p,szZ t.1
theorem z1z {P:Program} (w:World) {ops:Array Oper} {rest:List Oper} {o:Oper} {a:Act} {Q:Exit → Act → World → Prop} (hgd:o.guard = none) (x y:Operand) (t e:TypeId)
  (ho:o.op = .slice t x (some y) none none) (ht:P.underlying t = some (.slice e)) {z:Option Value} {size bytes:Nat} (hinfo:(P.info? e).map (fun i => (i.zero,i.size,i.bytes)) = some (z,size,bytes))
  (A:Option Addr) (n cap k:Nat) (hx:a.eval x = .slice A n cap) (hy:a.eval y = .int .i64 (k:Nat)) (hk:k ≤ n)
  (h:∀ A',A' = (if cap = k then A else A.map (·.add (k * size))) → wpList P ops Q rest (a.put o.dst (.slice A' (n - k) (cap - k))) w):wpList P ops Q (o :: rest) a w:=by
 refine wpList_plain hgd fun K hK => ?_
 have he:P.elem t = e:=by simp [Program.elem,ht]
 have ht':P.underlying t = some (.slice (P.elem t)):=by rw [he]; exact ht
 have hi:∃ i,P.info? e = some i ∧ i.size = size:=by
  cases hh:P.info? e with
  | none => rw [hh] at hinfo; simp at hinfo
  | some i =>
   rw [hh] at hinfo
   simp at hinfo
   exact ⟨i,rfl,hinfo.2.1⟩
 obtain ⟨i,hi1,hi2⟩:=hi
 unfold Oper.wp execOp
 simp only [ho,Option.map,hx,hy]
 rw [Sem.run_bind,run_sliceAt_slice _ _ _ _ _ _ ht',run_slice_l _ _ _ _ _ ht' _ _ (by omega) (by omega)]
 simp only [he,sizeOf,typeInfo,Sem.run_bind,sliced,Int.toNat_natCast]
 have:=hK _ _ (h _ rfl)
 simpa [go_sem,hi1,hi2] using this
theorem z4s {S:Nat → Prop} {w:World} {A A':Option Addr} {n cap k:Nat} {p:PZ} (h:RTs S w (.slice A n cap) p) (hk:k ≤ p.length) (e:A' = (if cap = k then A else A.map (·.add (k * 3)))) :
  ∃ news,zcs w A' (p.length - k) 3 news ∧ z1q S w news (p.drop k):=by
 have h':=h
 obtain ⟨b,off,⟨a',cap',h1,h2,h3,h4,h5⟩,hc⟩:=h
 obtain ⟨rfl,rfl,rfl⟩:A = a' ∧ n = p.length ∧ cap = cap':=by simpa using h1
 by_cases hlt:k < p.length
 ·have ha:=h4 (by omega)
  subst ha
  rw [if_neg (by omega)] at e
  have e2:A' = some ⟨b,off + k * 3,none⟩:=by rw [e,Option.map_some,z8d]
  rw [e2]
  exact h'.src hk
 ·obtain rfl:k = p.length:=by omega
  refine ⟨[],⟨by simp,fun u hu => by simp at hu,fun hh => by omega⟩,?_⟩
  rw [List.drop_length]
  rfl
theorem z0z {w w':World} {base:Nat} {e:TypeId} {size:Nat} {v:Value} {n:Nat} {xs:List Value} (h:w.ownsRow base e size v n xs) (hx:Ext w w'):w'.ownsRow base e size v n xs :=
 h.kept (row:=none) ⟨hx.os,hx.tape,hx.output,hx.size,fun k hk _ => hx.block k hk⟩ (by
  cases hv:v.ownBlock with
  | none => exact .inl rfl
  | some k => exact .inr (by simp))
theorem zhs {c:Int} (h:c ≠ 0):(z1l c != 0) = true:=by
 rw [bne_iff_ne]
 unfold z1l
 rw [Ne,z6q]
 exact h
abbrev Plus (S:Nat → Prop) (w w1:World):Nat → Prop:=fun k => S k ∨ New w w1 k
theorem z2s {S:Nat → Prop} {w w1:World} (hS:∀ k,S k → k < w.heap.size) (hx:Ext w w1):∀ k,Plus S w w1 k → k < w1.heap.size:=fun k hk => by
 rcases hk with h | h
 ·exact Nat.lt_of_lt_of_le (hS k h) hx.size
 ·exact h.2
theorem z5z {S:Nat → Prop} {w w1 w2:World} (hx:w1.heap.size ≤ w2.heap.size):∀ k,Plus S w w1 k → Plus S w w2 k:=fun k hk => by
 rcases hk with h | h
 ·exact .inl h
 ·exact .inr ⟨h.1,Nat.lt_of_lt_of_le h.2 hx⟩
abbrev Off (S:Nat → Prop) (w w1:World) (o:Value):Nat → Prop:=fun k => Plus S w w1 k ∧ some k ≠ o.ownBlock
theorem z9j {S:Nat → Prop} {w w0 w1:World} {o v:Value} {z:List Nat} (hS:∀ k,S k → k < w.heap.size) (h0:Ext w w0) (h:Digs (Off S w w0 o) w0 v z) (hx:Ext w0 w1):Digs (Off S w w1 o) w1 v z :=
 h.to (Kept.ext hx (fun k h => z2s hS h0 k h.1)) (fun k h => ⟨z5z hx.size k h.1,h.2⟩)
theorem zuw {w w1:World} {o:Value} {e:TypeId} {size n:Nat} {xs:List Value} (ho:w1.ownsRow (w.heap.size + 1) e size o n xs) {k:Nat} (hk:k < w.heap.size):some k ≠ o.ownBlock:=fun e => by
 have:=(ho.lt k e.symm).1
 omega
theorem znb {S:Nat → Prop} {w w1:World} {o v:Value} {z:List Nat} {e:TypeId} {size n:Nat} {xs:List Value} (hS:∀ k,S k → k < w.heap.size) (h:Digs S w v z) (hx:Ext w w1) (ho:w1.ownsRow (w.heap.size + 1) e size o n xs):Digs (Off S w w1 o) w1 v z :=
 h.to (Kept.ext hx hS) (fun k hk => ⟨.inl hk,zuw ho (hS k hk)⟩)
theorem z3m {w w1 w2:World} {o:Value} {e:TypeId} {size n:Nat} {xs:List Value} (hx:Ext w w1) (ho:w1.ownsRow (w.heap.size + 1) e size o n xs) (hg:w1.grownBy w2 o.ownBlock):Ext w w2 :=
 z0n hx hg (fun k hk => by have:=(ho.lt k hk).1; omega)
theorem z9k {S:Nat → Prop} {w w1:World} {o:Value} {e:TypeId} {size n:Nat} {xs:List Value} (hS:∀ k,S k → k < w.heap.size) (ho:w1.ownsRow (w.heap.size + 1) e size o n xs) (hx:Ext w w1):∀ k,S k → k < w1.heap.size ∧ some k ≠ o.ownBlock:=fun k hk =>
 ⟨Nat.lt_of_lt_of_le (hS k hk) hx.size,zuw ho (hS k hk)⟩
theorem zbf {S:Nat → Prop} {w w1:World} {o v2:Value} {k:Nat} (hS:∀ k,S k → k < w.heap.size) (hx:Ext w w1) (h:Off S w w1 o k) (hb:v2.ownBlock = o.ownBlock ∨ v2.ownBlock = some (w1.heap.size + 1)):some k ≠ v2.ownBlock:=by
 rcases hb with e | e
 ·rw [e]; exact h.2
 ·rw [e]
  intro e2
  have:=z2s hS hx k h.1
  have e3:k = w1.heap.size + 1:=Option.some.inj e2
  omega
theorem znc (w:World) (a:Addr) (u:Value):w.grownBy (w.setCell a u) (some a.block) :=
 ⟨rfl,rfl,rfl,Nat.le_of_eq (z07 w a u).symm,fun k _ hne => Below.heap_setCell _ _ _ _ (fun e => hne (by rw [e]))⟩
theorem znd {w1:World} {b i base:Nat} {o:Value} {e:TypeId} {size n:Nat} {xs:List Value} (ho:w1.ownsRow base e size o n xs) (hb:b < base) (u:Value):(w1.setCell ⟨b,i,none⟩ u).ownsRow base e size o n xs :=
 ho.kept (znc w1 ⟨b,i,none⟩ u) (by
  cases hv:o.ownBlock with
  | none => exact .inl rfl
  | some k =>
   have:=(ho.lt k hv).1
   exact .inr (fun e => by
    have e2:k = b:=Option.some.inj e
    omega))
theorem zw1 {S:Nat → Prop} {w wb wc:World} {b i j:Nat} {o v x y:Value} {z:List Nat} {base:Nat} {e:TypeId} {size n:Nat} {xs:List Value} (h:Digs (New wb wc) wc v z) (ho:wb.ownsRow base e size o n xs) (hb:b < wb.heap.size) (hw:w.heap.size ≤ wb.heap.size) :
  Digs (Off S w ((wc.setCell ⟨b,i,none⟩ x).setCell ⟨b,j,none⟩ y) o) ((wc.setCell ⟨b,i,none⟩ x).setCell ⟨b,j,none⟩ y) v z:=by
 have k1:Kept (New wb wc) wc (wc.setCell ⟨b,i,none⟩ x):=Kept.setCell (a:=⟨b,i,none⟩) (fun hh => by have:=hh.1; simp only at this; omega) x
 have k2:Kept (New wb wc) (wc.setCell ⟨b,i,none⟩ x) ((wc.setCell ⟨b,i,none⟩ x).setCell ⟨b,j,none⟩ y):=Kept.setCell (a:=⟨b,j,none⟩) (fun hh => by have:=hh.1; simp only at this; omega) y
 refine h.to (k1.trans k2) (fun k hk => ⟨.inr ⟨Nat.le_trans hw hk.1,?_⟩,fun e => ?_⟩)
 ·rw [z07,z07]
  exact hk.2
 ·have:=(ho.lt k e.symm).2
  have:=hk.1
  omega
theorem z7j {S:Nat → Prop} {w w2 w3:World} {k j n:Nat} {T:TypeId} {v3:Value} {xs ms news:List Value} {p md q:PZ} (hS:∀ k,S k → k < w.heap.size) (hx:z1q S w xs (p.take k)) (x3:Ext w w3) (hm:z1q (Plus S w w3) w3 ms md) (hn:z1q S w2 news (p.drop j)) (hk:Kept S w2 w3)
  (ho:w3.ownsRow (w.heap.size + 1) T 3 v3 n (xs ++ ms ++ news)) (hq:q = p.take k ++ md ++ p.drop j):RTs (Plus S w w3) w3 v3 q:=by
 have hc:z1q (Plus S w w3) w3 (xs ++ ms ++ news) q:=by
  rw [hq]
  exact ((hx.to (Kept.ext x3 hS) (fun _ h => .inl h)).append hm).append (hn.to hk (fun _ h => .inl h))
 have hl:=hc.length
 have hn':n = q.length:=by
  have:=ho.1
  omega
 subst hn'
 exact zna ho hc (fun k h1 h2 => .inr ⟨by omega,h2⟩)
theorem zbg {S:Nat → Prop} (vp vc vm:Value) (p:PZ) (c:Int) (m:Mono) (w:World) (hS:∀ k,S k → k < w.heap.size) (hp:RTs S w vp p) (hc:ZV S w vc c) (hm:Pows S w vm m) (hmay:z0k p) (hmm:mayM m = true) (hs:szP p) (hsc:szZ c) :
  Calls Tryz.prog 34 #[vp,vc,vm] w fun e w' => ∃ v',e = .returned v' ∧ RTs (Plus S w w') w' v' (putP p c m) ∧ Ext w w':=by
 obtain ⟨i0,hi,hz0,hz1,hz2⟩:=info_parts Tryz.infoT
 have HP:=hid hp
 have HM:=hid hm
 have HC:=hid hc
 have HMY:=hid hmay
 have HMM:=hid hmm
 have HS:=hid hs
 have HSC:=hid hsc
 obtain ⟨ap,cp,rfl⟩:=hp.form
 obtain ⟨ac,nc,cc,rfl⟩:=hc.form
 obtain ⟨am,cm,rfl⟩:=hm.form
 have hl:=hp.len_le
 clear hp hc hm hmay hmm hs hsc
 obtain ⟨bc,hbc⟩:∃ b,b = decide (c < 0):=⟨_,rfl⟩
 rw [← hbc] at HC ⊢
 have HK:=hid (Ext.alloc (Ext.refl w) (.cells #[.bool bc,.slice ac nc cc] 102))
 have HCC:=fun (W:World) (hW:Ext (w.alloc (.cells #[.bool bc,.slice ac nc cc] 102)) W) => new2 hW
 have HCC:=hid HCC
 have HBZ:=hid hbc
 have HDC:Hid (Digs S w (.slice ac nc cc) (rep 10 c.natAbs)):=by
  obtain ⟨vd,e1,e2⟩:=HC.out
  have e3:Value.slice ac nc cc = vd:=by simp at e1; exact e1.2
  rw [e3]
  exact hid e2
 clear hbc
 go_enter Tryz.func34,Tryz.ntmps34
 go_wp2
 go_loopw [7,8] (fun o v wr => ∃ k xs,k ≤ p.length ∧ v = .int .i64 (k:Nat) ∧ Ext (w.alloc (.cells #[.bool bc,.slice ac nc cc] 102)) wr ∧ Hid (∀ j t,j < k → p[j]? = some t → z0e t.2 m = 1) ∧ Hid (wr.ownsRow (w.heap.size + 1) 105 3 o k xs) ∧ Hid (z1q S w xs (p.take k))) (fun _ v _ => p.length - (intOf v).toNat)
 case atStart => exact ⟨0,[],Nat.zero_le _,rfl,Ext.refl _,hid (fun j t hj => by omega),hid (World.ownsRow_nil _ _ _ _),hid rfl⟩
 case round =>
  obtain ⟨k,xs,hk,rfl,hx,HPR,HW,HXS⟩:=hrel
  have HX:=hid hx
  by_cases hlt:k < p.length
  ·obtain ⟨t,ht⟩:=z01 hlt
   obtain ⟨b,off,vd,vo,rfl,-,hn1,hm1,hSb,h1,h2,h3,h4,h5⟩:=HP.out.cellAt ht
   have HT:=hid ht
   have H4:=hid h4
   have H5:=hid h5
   obtain ⟨ad,cd,rfl⟩:=h4.form
   obtain ⟨ao,co,rfl⟩:=h5.form
   have HXW0:=hid (HK.out.trans hx)
   have g1:=HXW0.out.cell h1
   have g2:=HXW0.out.cell h2
   have g3:=HXW0.out.cell h3
   have HTM:=hid (HMY.out t (List.mem_of_getElem? ht))
   have HSZT:=hid (HS.out.2 t (List.mem_of_getElem? ht))
   have CO:=fun (W:World) (hW:Ext w W) => ze0 (S:=S) _ _ t.2 m W (H5.out.ext hW hS) (HM.out.ext hW hS) (z08 hS hW)
   rw [zvp HTM.out HMM.out] at CO
   obtain ⟨rc,hrc⟩:∃ r,z0e t.2 m = r:=⟨_,rfl⟩
   rw [hrc] at CO
   have hcs:rc = 1 ∨ rc = 0 ∨ rc = -1:=by rw [← hrc]; rcases z1n HTM.out HMM.out with h | h | h <;> omega
   have HCO:=hid CO
   have HRC:=hid hrc
   obtain ⟨bt,hbt⟩:∃ b,b = decide (t.1 < 0):=⟨_,rfl⟩
   obtain ⟨nt,hnt⟩:∃ n,n = (rep 10 t.1.natAbs).length:=⟨_,rfl⟩
   rw [← hbt] at g1
   rw [← hnt] at g2 H4
   have HBT:=hid hbt
   have HTK:Hid (p.take (k + 1) = p.take k ++ [t]):=hid (by rw [List.take_add_one,ht]; rfl)
   have HSZ0:Hid (w.heap.size + 1 ≤ wr.heap.size):=hid (by have:=hx.size; rw [z02] at this; exact this)
   clear CO hrc hx ht h1 h2 h3 h4 h5 hbt hnt
   rcases hcs with rfl | rfl | rfl
   ·go_wp2_with fail
    refine (HCO.out wr HXW0.out).mono ?_
    rintro e w1 ⟨rfl,hx1⟩
    have HX1:=hid (HX.out.trans hx1)
    have HW1:=hid (z0z HW.out hx1)
    have HSZ1:Hid (w.heap.size + 1 ≤ w1.heap.size):=hid (Nat.le_trans HSZ0.out hx1.size)
    have k1:=hx1.cell g1
    have k2:=hx1.cell g2
    have k3:=hx1.cell g3
    clear hx1 g1 g2 g3
    go_wp2_with (at_builtin; refine z1y _ rfl (.tmp 23) (.tmp 28) 54 rfl (w.heap.size + 1) 105 (.agg #[.bool false,.slice none 0 0,.slice none 0 0]) 3 56 Tryz.underlying54 Tryz.infoT rfl (by decide) _ k xs rfl HW1.out #[.bool bt,.slice ad nt cd,.slice ao t.2.length co] rfl (z2f rfl rfl rfl) rfl (by have:=HS.out.1; omega) (by decide) HSZ1.out ?_; intro v2 w2 hown hg _; have HW2:=hid hown; have HX2:=hid (z0n HX1.out hg (fun j hj => by have:=(HW1.out.lt j hj).1; rw [z02]; exact this)); clear hown hg)
    go_roundw
    case rel =>
     refine ⟨k + 1,xs ++ (#[.bool bt,.slice ad nt cd,.slice ao t.2.length co]:Array Value).toList,by omega,by go_num,HX2.out,hid (fun j u hj hu => ?_),HW2,hid ?_⟩
     ·by_cases e:j = k
      ·subst e
       have:=HT.out.symm.trans hu
       cases this
       exact HRC.out
      ·exact HPR.out j u (by omega) hu
     ·rw [HTK.out]
      refine HXS.out.append ?_
      rw [HBT.out]
      exact z1q.single H4.out H5.out
    case measure => simp only [intOf]; omega
   ·go_wp2_with fail
    refine (HCO.out wr HXW0.out).mono ?_
    rintro e wa ⟨rfl,hxa⟩
    have HXA:=hid (HX.out.trans hxa)
    have k1:=hxa.cell g1
    have k2:=hxa.cell g2
    have k3:=hxa.cell g3
    have HWA:=hid (z0z HW.out hxa)
    clear hxa g1 g2 g3
    go_wp2_with fail
    refine (HCO.out wa (HK.out.trans HXA.out)).mono ?_
    rintro e wb ⟨rfl,hxb⟩
    have HXB:=hid (HXA.out.trans hxb)
    have l1:=hxb.cell k1
    have l2:=hxb.cell k2
    have l3:=hxb.cell k3
    have HWB:=hid (z0z HWA.out hxb)
    obtain ⟨c0,c1,f0,f1⟩:=HCC.out wb HXB.out
    have HKB:=hid (HK.out.trans HXB.out.drew)
    have CA:=zvz (S:=S) _ _ c t.1 wb.drew (HC.out.ext HKB.out hS) (show ZV S wb.drew (.agg #[.bool (decide (t.1 < 0)),.slice ad nt cd]) t.1 from ⟨_,rfl,H4.out.ext HKB.out hS⟩) (z08 hS HKB.out) HSC.out HSZT.out
    rw [← HBT.out] at CA
    have HCA:=hid CA
    clear hxb k1 k2 k3 CA
    go_wp2
    go_still_tail 6,(by kernel_rfl)
    change wpList _ _ _ _ _ wb.drew
    go_wp2_with fail
    refine HCA.out.mono ?_
    rintro e wc ⟨vs,rfl,hzv,hxc⟩
    obtain ⟨vd2,rfl,hd2⟩:=hzv
    have HD2:=hid hd2
    obtain ⟨aq,cs,rfl⟩:=hd2.form
    obtain ⟨ns,hns⟩:∃ n,n = (rep 10 (c + t.1).natAbs).length:=⟨_,rfl⟩
    obtain ⟨bs,hbs⟩:∃ b,b = decide (c + t.1 < 0):=⟨_,rfl⟩
    have HBZ:=hid hbs
    rw [← hns] at HD2 ⊢
    rw [← hbs]
    obtain ⟨q0,q1,p0,p1⟩:=HCC.out wc (HXB.out.drew.trans hxc)
    obtain ⟨e0,e1⟩:=z19 (.bool bs) (.slice aq ns cs) q0 q1
    have HWC:=hid (znd (i:=1) (znd (i:=0) (z0z HWB.out ((Ext.refl wb).drew.trans hxc)) (Nat.lt_succ_self w.heap.size) (.bool bs)) (Nat.lt_succ_self w.heap.size) (.slice aq ns cs))
    have HSZC:Hid (w.heap.size + 1 ≤ wb.heap.size):=hid (by have:=HXB.out.size; rw [z02] at this; exact this)
    have HXC:=hid (((HKB.out.trans hxc).setCell (p:=⟨w.heap.size,0,none⟩) (Nat.le_refl _) (.bool bs)).setCell (p:=⟨w.heap.size,1,none⟩) (Nat.le_refl _) (.slice aq ns cs))
    have HSZ2:Hid (w.heap.size + 1 ≤ ((wc.setCell ⟨w.heap.size,0,none⟩ (.bool bs)).setCell ⟨w.heap.size,1,none⟩ (.slice aq ns cs)).heap.size):=hid (by rw [z07,z07]; exact Nat.le_trans HSZC.out hxc.size)
    have HDC2:=hid (zw1 (wb:=wb.drew) (b:=w.heap.size) (i:=0) (j:=1) (x:=.bool bs) (y:=.slice aq ns cs) HD2.out (z0z HWB.out ((Ext.refl wb).drew)) HSZC.out (Nat.le_trans (Nat.le_succ _) HSZC.out) (S:=S) (w:=w))
    have HPE:=hid (zrr (c:=c) HPR.out HT.out HRC.out)
    have HJ:Hid (k + 1 ≤ p.length):=hid hlt
    clear hxc hd2 hns hbs c0 c1
    go_wp2_with fail
    obtain ⟨wz,hwz⟩:∃ W,W = (wc.setCell ⟨w.heap.size,0,none⟩ (.bool bs)).setCell ⟨w.heap.size,1,none⟩ (.slice aq ns cs):=⟨_,rfl⟩
    rw [← hwz] at HWC HXC HSZ2 HDC2 e0 e1 ⊢
    have HW:=HWC
    have HXW:Hid (Ext w wz):=HXC
    have HSZ:=HSZ2
    have HDZ:=HDC2
    have c0:=e0
    have c1:=e1
    clear hwz q0 q1 p0 p1 f0 f1 HWC HXC HSZ2 HDC2 e0 e1 HD2
    by_cases hz:c + t.1 = 0
    ·have CS:=hid (show Calls Tryz.prog 72 #[.agg #[.bool bs,.slice aq ns cs]] wz fun e w' => e = .returned (.int .i64 0) ∧ Ext wz w' from by have h:=z7h (S:=Off S w wz u7) _ (c + t.1) wz ⟨_,rfl,HDZ.out⟩; rw [← HBZ.out,show z1l (c + t.1) = 0 by rw [hz]; rfl] at h; exact h)
     have HZ:=hid hz
     clear hz
     refine CS.out.mono ?_
     rintro e w1 ⟨rfl,hx1⟩
     have HX1:=hid (HXW.out.trans hx1)
     have HW1:=hid (z0z HW.out hx1)
     have HSZ1:Hid (w.heap.size + 1 ≤ w1.heap.size):=hid (Nat.le_trans HSZ.out hx1.size)
     have HD1:=hid (z9j hS HXW.out HDZ.out hx1)
     clear hx1
     go_wp2_with (first | (refine z1z _ rfl (.tmp 65) (.tmp 66) 54 105 rfl Tryz.underlying54 Tryz.infoT (some ⟨b,off,none⟩) p.length cp (k + 1) rfl rfl HJ.out ?_; intro A' hA'; obtain ⟨news,hsrc,hcs⟩:=z4s (HP.out.ext HX1.out hS) HJ.out hA'; have HSRC:=hid hsrc; have HCS:=hid hcs; clear hA' hsrc hcs) | (at_builtin; refine z0u _ rfl (.tmp 64) (.tmp 67) 54 rfl (w.heap.size + 1) 105 i0 (.agg #[.bool false,.slice none 0 0,.slice none 0 0]) 3 56 Tryz.underlying54 hi hz0 hz1 hz2 rfl (by decide) _ ((k)) xs rfl HW1.out A' (p.length - (k + 1)) _ news rfl HSRC.out (by have:=HS.out.1; unfold maxLen; omega) (by have:=HS.out.1; omega) HSZ1.out ?_; intro v3 w3 hown hg _; have HW3:=hid hown; have HG3:=hid hg; clear hown hg))
     go_ret
     have hx3:=z3m HX1.out HW1.out HG3.out
     refine ⟨_,rfl,z7j (w:=w) hS (ms:=[]) (md:=[]) HXS.out hx3 rfl HCS.out (Kept.grown HG3.out (z9k hS HW1.out HX1.out)) (by simpa using HW3.out) (by rw [HPE.out,zbc HZ.out]),hx3⟩
    ·have CS:=hid (show Calls Tryz.prog 72 #[.agg #[.bool bs,.slice aq ns cs]] wz fun e w' => e = .returned (.int .i64 (z1l (c + t.1))) ∧ Ext wz w' from by rw [HBZ.out]; exact z7h (S:=Off S w wz u7) _ (c + t.1) wz ⟨_,rfl,HDZ.out⟩)
     have hsn:=zhs hz
     have HZ:=hid hz
     clear hz
     refine CS.out.mono ?_
     rintro e w1 ⟨rfl,hx1⟩
     have HX1:=hid (HXW.out.trans hx1)
     have HW1:=hid (z0z HW.out hx1)
     have HSZ1:Hid (w.heap.size + 1 ≤ w1.heap.size):=hid (Nat.le_trans HSZ.out hx1.size)
     have HD1:=hid (z9j hS HXW.out HDZ.out hx1)
     have k0:=hx1.cell c0
     have k1:=hx1.cell c1
     clear hx1
     go_wp2_with (first | (refine z1z _ rfl (.tmp 65) (.tmp 66) 54 105 rfl Tryz.underlying54 Tryz.infoT (some ⟨b,off,none⟩) p.length cp (k + 1) rfl rfl HJ.out ?_; intro A' hA'; obtain ⟨news,hsrc,hcs⟩:=z4s (HP.out.ext HX2.out hS) HJ.out hA'; have HSRC:=hid hsrc; have HCS:=hid hcs; clear hA' hsrc hcs) | (first | (at_builtin; refine z1y _ rfl (.tmp 58) (.tmp 62) 54 rfl (w.heap.size + 1) 105 (.agg #[.bool false,.slice none 0 0,.slice none 0 0]) 3 56 Tryz.underlying54 Tryz.infoT rfl (by decide) _ (k) xs rfl HW1.out #[.bool bs,.slice aq ns cs,.slice am m.length cm] rfl (z2f rfl rfl rfl) rfl (by have:=HS.out.1; omega) (by decide) HSZ1.out ?_; intro v2 w2 hown hg hbk; have HW2:=hid hown; have HG2:=hid hg; have HBK:=hid hbk; have HX2:=hid (z3m HX1.out HW1.out hg); have HSZ2:Hid (w.heap.size + 1 ≤ w2.heap.size):=hid (Nat.le_trans HSZ1.out hg.size); clear hown hg hbk) | (at_builtin; refine z0u _ rfl (.tmp 64) (.tmp 67) 54 rfl (w.heap.size + 1) 105 i0 (.agg #[.bool false,.slice none 0 0,.slice none 0 0]) 3 56 Tryz.underlying54 hi hz0 hz1 hz2 rfl (by decide) _ ((k) + 1) (xs ++ (#[.bool bs,.slice aq ns cs,.slice am m.length cm]:Array Value).toList) rfl HW2.out A' (p.length - (k + 1)) _ news rfl HSRC.out (by have:=HS.out.1; unfold maxLen; omega) (by have:=HS.out.1; omega) HSZ2.out ?_; intro v3 w3 hown hg _; have HW3:=hid hown; have HG3:=hid hg; clear hown hg)))
     go_ret
     have hx3:=z3m HX2.out HW2.out HG3.out
     have hmid:z1q (Plus S w w3) w3 [.bool bs,.slice aq ns cs,.slice am m.length cm] [(c + t.1,m)]:=by
      have hd:=Digs.to HD1.out (Kept.grown HG2.out (fun j hj => ⟨z2s hS HX1.out j hj.1,hj.2⟩)) (fun _ h => h)
      have hd3:=Digs.to hd (Kept.grown HG3.out (fun j hj => ⟨Nat.lt_of_lt_of_le (z2s hS HX1.out j hj.1) HG2.out.size,zbf hS HX1.out hj HBK.out⟩)) (S':=Plus S w w3) (fun j hj => z5z (Nat.le_trans HG2.out.size HG3.out.size) j hj.1)
      rw [HBZ.out]
      exact z1q.single (t:=(c + t.1,m)) hd3 (HM.out.to (Kept.ext hx3 hS) (fun _ h => .inl h))
     refine ⟨_,rfl,z7j (w:=w) hS (ms:=[.bool bs,.slice aq ns cs,.slice am m.length cm]) (md:=[(c + t.1,m)]) HXS.out hx3 hmid HCS.out (Kept.grown HG3.out (z9k hS HW2.out HX2.out)) HW3.out (by rw [HPE.out,zbd HZ.out]),hx3⟩
   ·go_wp2_with fail
    refine (HCO.out wr HXW0.out).mono ?_
    rintro e wa ⟨rfl,hxa⟩
    have HXA:=hid (HX.out.trans hxa)
    have k1:=hxa.cell g1
    have k2:=hxa.cell g2
    have k3:=hxa.cell g3
    have HWA:=hid (z0z HW.out hxa)
    clear hxa g1 g2 g3
    go_wp2_with fail
    refine (HCO.out wa (HK.out.trans HXA.out)).mono ?_
    rintro e wz ⟨rfl,hxb⟩
    have HXB:=hid (HXA.out.trans hxb)
    have HW:=hid (z0z HWA.out hxb)
    have HXW:=hid (HK.out.trans HXB.out)
    have HSZ:Hid (w.heap.size + 1 ≤ wz.heap.size):=hid (by have:=HXB.out.size; rw [z02] at this; exact this)
    obtain ⟨c0,c1,f0,f1⟩:=HCC.out wz HXB.out
    have HDZ:=hid (znb hS HDC.out HXW.out HW.out)
    have HPE:=hid (zrs (c:=c) HPR.out HT.out (by rw [HRC.out]; decide) (by rw [HRC.out]; decide))
    have HJ:Hid (k ≤ p.length):=hid hk
    clear hxb k1 k2 k3
    by_cases hz:c = 0
    ·have CS:=hid (show Calls Tryz.prog 72 #[.agg #[.bool bc,.slice ac nc cc]] wz fun e w' => e = .returned (.int .i64 0) ∧ Ext wz w' from by have h:=z7h (S:=Off S w wz u7) _ (c) wz ⟨_,rfl,HDZ.out⟩; rw [← HBZ.out,show z1l (c) = 0 by rw [hz]; rfl] at h; exact h)
     have HZ:=hid hz
     clear hz
     go_wp2_with fail
     refine CS.out.mono ?_
     rintro e w1 ⟨rfl,hx1⟩
     have HX1:=hid (HXW.out.trans hx1)
     have HW1:=hid (z0z HW.out hx1)
     have HSZ1:Hid (w.heap.size + 1 ≤ w1.heap.size):=hid (Nat.le_trans HSZ.out hx1.size)
     have HD1:=hid (z9j hS HXW.out HDZ.out hx1)
     clear hx1
     go_wp2_with (first | (refine z1z _ rfl (.tmp 65) (.tmp 66) 54 105 rfl Tryz.underlying54 Tryz.infoT (some ⟨b,off,none⟩) p.length cp (k) rfl rfl HJ.out ?_; intro A' hA'; obtain ⟨news,hsrc,hcs⟩:=z4s (HP.out.ext HX1.out hS) HJ.out hA'; have HSRC:=hid hsrc; have HCS:=hid hcs; clear hA' hsrc hcs) | (at_builtin; refine z0u _ rfl (.tmp 64) (.tmp 67) 54 rfl (w.heap.size + 1) 105 i0 (.agg #[.bool false,.slice none 0 0,.slice none 0 0]) 3 56 Tryz.underlying54 hi hz0 hz1 hz2 rfl (by decide) _ ((k)) xs rfl HW1.out A' (p.length - (k)) _ news rfl HSRC.out (by have:=HS.out.1; unfold maxLen; omega) (by have:=HS.out.1; omega) HSZ1.out ?_; intro v3 w3 hown hg _; have HW3:=hid hown; have HG3:=hid hg; clear hown hg))
     go_ret
     have hx3:=z3m HX1.out HW1.out HG3.out
     refine ⟨_,rfl,z7j (w:=w) hS (ms:=[]) (md:=[]) HXS.out hx3 rfl HCS.out (Kept.grown HG3.out (z9k hS HW1.out HX1.out)) (by simpa using HW3.out) (by rw [HPE.out,zbc HZ.out]),hx3⟩
    ·have CS:=hid (show Calls Tryz.prog 72 #[.agg #[.bool bc,.slice ac nc cc]] wz fun e w' => e = .returned (.int .i64 (z1l (c))) ∧ Ext wz w' from by rw [HBZ.out]; exact z7h (S:=Off S w wz u7) _ (c) wz ⟨_,rfl,HDZ.out⟩)
     have hsn:=zhs hz
     have HZ:=hid hz
     clear hz
     go_wp2_with fail
     refine CS.out.mono ?_
     rintro e w1 ⟨rfl,hx1⟩
     have HX1:=hid (HXW.out.trans hx1)
     have HW1:=hid (z0z HW.out hx1)
     have HSZ1:Hid (w.heap.size + 1 ≤ w1.heap.size):=hid (Nat.le_trans HSZ.out hx1.size)
     have HD1:=hid (z9j hS HXW.out HDZ.out hx1)
     have k0:=hx1.cell c0
     have k1:=hx1.cell c1
     clear hx1
     go_wp2_with (first | (refine z1z _ rfl (.tmp 65) (.tmp 66) 54 105 rfl Tryz.underlying54 Tryz.infoT (some ⟨b,off,none⟩) p.length cp (k) rfl rfl HJ.out ?_; intro A' hA'; obtain ⟨news,hsrc,hcs⟩:=z4s (HP.out.ext HX2.out hS) HJ.out hA'; have HSRC:=hid hsrc; have HCS:=hid hcs; clear hA' hsrc hcs) | (first | (at_builtin; refine z1y _ rfl (.tmp 58) (.tmp 62) 54 rfl (w.heap.size + 1) 105 (.agg #[.bool false,.slice none 0 0,.slice none 0 0]) 3 56 Tryz.underlying54 Tryz.infoT rfl (by decide) _ (k) xs rfl HW1.out #[.bool bc,.slice ac nc cc,.slice am m.length cm] rfl (z2f rfl rfl rfl) rfl (by have:=HS.out.1; omega) (by decide) HSZ1.out ?_; intro v2 w2 hown hg hbk; have HW2:=hid hown; have HG2:=hid hg; have HBK:=hid hbk; have HX2:=hid (z3m HX1.out HW1.out hg); have HSZ2:Hid (w.heap.size + 1 ≤ w2.heap.size):=hid (Nat.le_trans HSZ1.out hg.size); clear hown hg hbk) | (at_builtin; refine z0u _ rfl (.tmp 64) (.tmp 67) 54 rfl (w.heap.size + 1) 105 i0 (.agg #[.bool false,.slice none 0 0,.slice none 0 0]) 3 56 Tryz.underlying54 hi hz0 hz1 hz2 rfl (by decide) _ ((k) + 1) (xs ++ (#[.bool bc,.slice ac nc cc,.slice am m.length cm]:Array Value).toList) rfl HW2.out A' (p.length - (k)) _ news rfl HSRC.out (by have:=HS.out.1; unfold maxLen; omega) (by have:=HS.out.1; omega) HSZ2.out ?_; intro v3 w3 hown hg _; have HW3:=hid hown; have HG3:=hid hg; clear hown hg)))
     go_ret
     have hx3:=z3m HX2.out HW2.out HG3.out
     have hmid:z1q (Plus S w w3) w3 [.bool bc,.slice ac nc cc,.slice am m.length cm] [(c,m)]:=by
      have hd:=Digs.to HD1.out (Kept.grown HG2.out (fun j hj => ⟨z2s hS HX1.out j hj.1,hj.2⟩)) (fun _ h => h)
      have hd3:=Digs.to hd (Kept.grown HG3.out (fun j hj => ⟨Nat.lt_of_lt_of_le (z2s hS HX1.out j hj.1) HG2.out.size,zbf hS HX1.out hj HBK.out⟩)) (S':=Plus S w w3) (fun j hj => z5z (Nat.le_trans HG2.out.size HG3.out.size) j hj.1)
      rw [HBZ.out]
      exact z1q.single (t:=(c,m)) hd3 (HM.out.to (Kept.ext hx3 hS) (fun _ h => .inl h))
     refine ⟨_,rfl,z7j (w:=w) hS (ms:=[.bool bc,.slice ac nc cc,.slice am m.length cm]) (md:=[(c,m)]) HXS.out hx3 hmid HCS.out (Kept.grown HG3.out (z9k hS HW2.out HX2.out)) HW3.out (by rw [HPE.out,zbd HZ.out]),hx3⟩
  ·obtain rfl:k = p.length:=by omega
   obtain ⟨c0,c1,f0,f1⟩:=HCC.out wr hx
   have HPE:=hid (zw0 (c:=c) HPR.out rfl)
   have HJ:Hid (p.length ≤ p.length):=hid (Nat.le_refl _)
   have HXW:=hid (HK.out.trans hx)
   have HSZ:Hid (w.heap.size + 1 ≤ wr.heap.size):=hid (by have:=hx.size; rw [z02] at this; exact this)
   have HDZ:=hid (znb hS HDC.out HXW.out HW.out)
   clear hx
   by_cases hz:c = 0
   ·have CS:=hid (show Calls Tryz.prog 72 #[.agg #[.bool bc,.slice ac nc cc]] wr fun e w' => e = .returned (.int .i64 0) ∧ Ext wr w' from by have h:=z7h (S:=Off S w wr u7) _ (c) wr ⟨_,rfl,HDZ.out⟩; rw [← HBZ.out,show z1l (c) = 0 by rw [hz]; rfl] at h; exact h)
    have HZ:=hid hz
    clear hz
    go_wp2_with fail
    refine CS.out.mono ?_
    rintro e w1 ⟨rfl,hx1⟩
    have HX1:=hid (HXW.out.trans hx1)
    have HW1:=hid (z0z HW.out hx1)
    have HSZ1:Hid (w.heap.size + 1 ≤ w1.heap.size):=hid (Nat.le_trans HSZ.out hx1.size)
    have HD1:=hid (z9j hS HXW.out HDZ.out hx1)
    clear hx1
    go_wp2_with (first | (refine z1z _ rfl (.tmp 65) (.tmp 66) 54 105 rfl Tryz.underlying54 Tryz.infoT ap p.length cp (p.length) rfl rfl HJ.out ?_; intro A' hA'; obtain ⟨news,hsrc,hcs⟩:=z4s (HP.out.ext HX1.out hS) HJ.out hA'; have HSRC:=hid hsrc; have HCS:=hid hcs; clear hA' hsrc hcs) | (at_builtin; refine z0u _ rfl (.tmp 64) (.tmp 67) 54 rfl (w.heap.size + 1) 105 i0 (.agg #[.bool false,.slice none 0 0,.slice none 0 0]) 3 56 Tryz.underlying54 hi hz0 hz1 hz2 rfl (by decide) _ ((p.length)) xs rfl HW1.out A' (p.length - (p.length)) _ news rfl HSRC.out (by have:=HS.out.1; unfold maxLen; omega) (by have:=HS.out.1; omega) HSZ1.out ?_; intro v3 w3 hown hg _; have HW3:=hid hown; have HG3:=hid hg; clear hown hg))
    go_ret
    have hx3:=z3m HX1.out HW1.out HG3.out
    refine ⟨_,rfl,z7j (w:=w) hS (ms:=[]) (md:=[]) HXS.out hx3 rfl HCS.out (Kept.grown HG3.out (z9k hS HW1.out HX1.out)) (by simpa using HW3.out) (by rw [HPE.out,zbc HZ.out]),hx3⟩
   ·have CS:=hid (show Calls Tryz.prog 72 #[.agg #[.bool bc,.slice ac nc cc]] wr fun e w' => e = .returned (.int .i64 (z1l (c))) ∧ Ext wr w' from by rw [HBZ.out]; exact z7h (S:=Off S w wr u7) _ (c) wr ⟨_,rfl,HDZ.out⟩)
    have hsn:=zhs hz
    have HZ:=hid hz
    clear hz
    go_wp2_with fail
    refine CS.out.mono ?_
    rintro e w1 ⟨rfl,hx1⟩
    have HX1:=hid (HXW.out.trans hx1)
    have HW1:=hid (z0z HW.out hx1)
    have HSZ1:Hid (w.heap.size + 1 ≤ w1.heap.size):=hid (Nat.le_trans HSZ.out hx1.size)
    have HD1:=hid (z9j hS HXW.out HDZ.out hx1)
    have k0:=hx1.cell c0
    have k1:=hx1.cell c1
    clear hx1
    go_wp2_with (first | (refine z1z _ rfl (.tmp 65) (.tmp 66) 54 105 rfl Tryz.underlying54 Tryz.infoT ap p.length cp (p.length) rfl rfl HJ.out ?_; intro A' hA'; obtain ⟨news,hsrc,hcs⟩:=z4s (HP.out.ext HX2.out hS) HJ.out hA'; have HSRC:=hid hsrc; have HCS:=hid hcs; clear hA' hsrc hcs) | (first | (at_builtin; refine z1y _ rfl (.tmp 58) (.tmp 62) 54 rfl (w.heap.size + 1) 105 (.agg #[.bool false,.slice none 0 0,.slice none 0 0]) 3 56 Tryz.underlying54 Tryz.infoT rfl (by decide) _ (p.length) xs rfl HW1.out #[.bool bc,.slice ac nc cc,.slice am m.length cm] rfl (z2f rfl rfl rfl) rfl (by have:=HS.out.1; omega) (by decide) HSZ1.out ?_; intro v2 w2 hown hg hbk; have HW2:=hid hown; have HG2:=hid hg; have HBK:=hid hbk; have HX2:=hid (z3m HX1.out HW1.out hg); have HSZ2:Hid (w.heap.size + 1 ≤ w2.heap.size):=hid (Nat.le_trans HSZ1.out hg.size); clear hown hg hbk) | (at_builtin; refine z0u _ rfl (.tmp 64) (.tmp 67) 54 rfl (w.heap.size + 1) 105 i0 (.agg #[.bool false,.slice none 0 0,.slice none 0 0]) 3 56 Tryz.underlying54 hi hz0 hz1 hz2 rfl (by decide) _ ((p.length) + 1) (xs ++ (#[.bool bc,.slice ac nc cc,.slice am m.length cm]:Array Value).toList) rfl HW2.out A' (p.length - (p.length)) _ news rfl HSRC.out (by have:=HS.out.1; unfold maxLen; omega) (by have:=HS.out.1; omega) HSZ2.out ?_; intro v3 w3 hown hg _; have HW3:=hid hown; have HG3:=hid hg; clear hown hg)))
    go_ret
    have hx3:=z3m HX2.out HW2.out HG3.out
    have hmid:z1q (Plus S w w3) w3 [.bool bc,.slice ac nc cc,.slice am m.length cm] [(c,m)]:=by
     have hd:=Digs.to HD1.out (Kept.grown HG2.out (fun j hj => ⟨z2s hS HX1.out j hj.1,hj.2⟩)) (fun _ h => h)
     have hd3:=Digs.to hd (Kept.grown HG3.out (fun j hj => ⟨Nat.lt_of_lt_of_le (z2s hS HX1.out j hj.1) HG2.out.size,zbf hS HX1.out hj HBK.out⟩)) (S':=Plus S w w3) (fun j hj => z5z (Nat.le_trans HG2.out.size HG3.out.size) j hj.1)
     rw [HBZ.out]
     exact z1q.single (t:=(c,m)) hd3 (HM.out.to (Kept.ext hx3 hS) (fun _ h => .inl h))
    refine ⟨_,rfl,z7j (w:=w) hS (ms:=[.bool bc,.slice ac nc cc,.slice am m.length cm]) (md:=[(c,m)]) HXS.out hx3 hmid HCS.out (Kept.grown HG3.out (z9k hS HW2.out HX2.out)) HW3.out (by rw [HPE.out,zbd HZ.out]),hx3⟩
end
section
open Go.RowKit
theorem zrt {p:PZ} {c:Int} {m:Mono} (hp:z0k p) (hm:mayM m = true):z0k (putP p c m):=fun t ht => by
 rcases ziq ht with h | h
 ·exact hp t h
 ·rw [h]; exact hm
theorem zru {p l:PZ} (hp:z0k p) (hl:z0k l):z0k (addP p l):=by
 induction l generalizing p with
 | nil => exact hp
 | cons t r ih => exact ih (zrt hp (hl t (by simp))) (fun u hu => hl u (by simp [hu]))
theorem zfs (p l:PZ) (t:Int × Mono):addP p (l ++ [t]) = putP (addP p l) t.1 t.2:=by
 unfold addP
 rw [List.foldl_append]
 rfl
theorem zrv {l:PZ} (h:z0k l) (k:Nat):z0k (l.take k):=fun t ht => h t (List.mem_of_mem_take ht)
theorem zbh {S:Nat → Prop} {w w1 w2:World} (h1:Ext w w1) (h2:Ext w1 w2):∀ k,Plus (Plus S w w1) w1 w2 k → Plus S w w2 k:=fun k hk => by
 rcases hk with (h | h) | h
 ·exact .inl h
 ·exact .inr ⟨h.1,Nat.lt_of_lt_of_le h.2 h2.size⟩
 ·exact .inr ⟨Nat.le_trans h1.size h.1,h.2⟩
theorem ziw {S:Nat → Prop} {w w1 w2:World} (h1:w.heap.size ≤ w1.heap.size):∀ k,New w1 w2 k → Plus S w w2 k:=fun _k hk => .inr ⟨Nat.le_trans h1 hk.1,hk.2⟩
theorem RTs.later {S:Nat → Prop} {w w1 w2:World} {v:Value} {p:PZ} (hS:∀ k,S k → k < w.heap.size) (h:RTs (Plus S w w1) w1 v p) (h1:Ext w w1) (h2:Ext w1 w2):RTs (Plus S w w2) w2 v p :=
 h.to (Kept.ext h2 (z2s hS h1)) (z5z h2.size)
theorem z9l (ts:List RTerm):(toP ts).length = ts.length:=by unfold toP; rw [List.length_map]
theorem zne {S:Nat → Prop} (vp vq:Value) (p q:PZ) (w:World) (hS:∀ k,S k → k < w.heap.size) (hp:RTs S w vp p) (hq:RTs S w vq q) (hmp:z0k p) (hmq:z0k q) (hszq:szP q) (hsz:∀ k,k ≤ q.length → szP (addP p (q.take k))) :
  Calls Tryz.prog 31 #[vp,vq] w fun e w' => ∃ v',e = .returned v' ∧ RTs (Plus S w w') w' v' (addP p q) ∧ Ext w w':=by
 have hl:=hq.len_le
 have HP:=hid hp
 have HQ:=hid hq
 have HMP:=hid hmp
 have HMQ:=hid hmq
 have HZQ:=hid hszq
 have HSZ:=hid hsz
 obtain ⟨ap,cp,rfl⟩:=hp.form
 obtain ⟨aq,cq,rfl⟩:=hq.form
 clear hp hq hmp hmq hszq hsz
 go_enter Tryz.func31,Tryz.ntmps31
 go_wp2
 go_loopw [5,6] (fun o i wr => ∃ k:Nat,k ≤ q.length ∧ i = .int .i64 k ∧ Ext w wr ∧ Hid (RTs (Plus S w wr) wr o (addP p (q.take k)))) (fun _ i _ => q.length - (intOf i).toNat)
 case atStart => exact ⟨0,Nat.zero_le _,rfl,Ext.refl _,hid (HP.out.to (Kept.refl _ _) (fun _ h => .inl h))⟩
 case round =>
  obtain ⟨k,hk,rfl,hx,HO⟩:=hrel
  have HX:=hid hx
  by_cases hlt:k < q.length
  ·obtain ⟨t,ht⟩:=z01 hlt
   obtain ⟨b,off,vd,vo,rfl,-,hn1,hm1,hSb,h1,h2,h3,h4,h5⟩:=HQ.out.cellAt ht
   have HTK:Hid (q.take (k + 1) = q.take k ++ [t]):=hid (by rw [List.take_add_one,ht]; rfl)
   have HTM:=hid (HMQ.out t (List.mem_of_getElem? ht))
   have HV:=hid (HZQ.out.2 t (List.mem_of_getElem? ht))
   have H4:=hid h4
   have H5:=hid h5
   obtain ⟨am,cm,rfl⟩:=h4.form
   obtain ⟨ao,co,rfl⟩:=h5.form
   have x0:Ext w wr.drew:=hx.drew
   have HX0:=hid x0
   have S0:_ ∧ _ ∧ _:=And.intro (x0.cell h1) (And.intro (x0.cell h2) (x0.cell h3))
   have c2:=zbg (S:=Plus S w wr.drew) _ _ _ (addP p (q.take k)) t.1 t.2 wr.drew (z2s hS x0) (RTs.later hS HO.out HX.out ((Ext.refl wr).drew)) (show ZV (Plus S w wr.drew) wr.drew (.agg #[.bool (decide (t.1 < 0)),.slice am (rep 10 t.1.natAbs).length cm]) t.1 from ⟨_,rfl,H4.out.to (Kept.ext HX0.out hS) (fun _ h => .inl h)⟩) (H5.out.to (Kept.ext HX0.out hS) (fun _ h => .inl h)) (zru HMP.out (zrv HMQ.out k)) HTM.out (HSZ.out k hk) HV.out
   obtain ⟨bt,hbt⟩:∃ b,b = decide (t.1 < 0):=⟨_,rfl⟩
   obtain ⟨nt,hnt⟩:∃ n,n = (rep 10 t.1.natAbs).length:=⟨_,rfl⟩
   obtain ⟨nm,hnm⟩:∃ n,n = t.2.length:=⟨_,rfl⟩
   rw [← hbt,← hnt,← hnm] at S0
   rw [← hbt,← hnt,← hnm] at c2
   have C2:=hid c2
   clear ht h1 h2 h3 h4 h5 hx x0 c2 H4 H5 hbt hnt hnm
   go_wp2
   go_region_held3 (fun W => W.cell? ⟨b,off + k * 3,none⟩ = some (.bool bt) ∧ W.cell? ⟨b,off + k * 3 + 1,none⟩ = some (.slice am nt cm) ∧ W.cell? ⟨b,off + k * 3 + 2,none⟩ = some (.slice ao nm co)) (first | exact S0 | exact S2)
    (first
     | (go_at_call 34; (with_reducible refine C2.out.mono ?_); rintro e w2 ⟨v2,rfl,hp2,hx2⟩; have S2:_ ∧ _ ∧ _:=And.intro (hx2.cell S0.1) (And.intro (hx2.cell S0.2.1) (hx2.cell S0.2.2)); have HX2:=hid (HX0.out.trans hx2); have HP2:=hid (hp2.to (Kept.refl _ _) (zbh HX0.out hx2)); clear hx2 hp2))
   go_wp2
   go_roundw
   case rel => exact ⟨k + 1,by omega,by go_num,HX2.out,hid (by rw [HTK.out,zfs]; exact HP2.out)⟩
   case measure => simp only [intOf]; omega
  ·obtain rfl:k = q.length:=by omega
   have HE:Hid (addP p (q.take q.length) = addP p q):=hid (by rw [List.take_length])
   clear hx
   go_wp2
   all_goals
    go_ret
    exact ⟨_,rfl,by rw [← HE.out]; exact HO.out,HX.out⟩
end
section
open Go.RowKit
section
variable {P:Program}
theorem z2g {w:World} {ops:Array Oper} {o:Oper} {a:Act} {K:Act → World → Prop} {Q:Exit → Act → World → Prop} {E:Prop} (hgd:o.guard = none) (s x:Operand) (t:TypeId)
  (ho:o.op = .call { callee:=.builtin .append,args:=#[s,x],argTypes:=#[t,t] })
  (base:Nat) (e:TypeId) (i:TypeInfo) (z:Value) (size bytes:Nat) (ht:P.underlying t = some (.slice e)) (hi:P.info? e = some i) (hz:i.zero = some z)
  (hsize:i.size = size) (hby:i.bytes = bytes) (hzs:z.cells.size = size) (hsz:0 < size)
  (v:Value) (n:Nat) (xs:List Value) (hs:a.eval s = v) (hown:w.ownsRow base e size v n xs)
  (A:Option Addr) (m c:Nat) (news:List Value) (hx:a.eval x = .slice A m c) (hsrc:zcs w A m size news)
  (h63:n + m ≤ maxLen) (hbytes:(n + m) * bytes ≤ 140737488355328) (hbase:base ≤ w.heap.size)
  (h:∀ v' w',w'.ownsRow base e size v' (n + m) (xs ++ news) → w.grownBy w' v.ownBlock → (v'.ownBlock = v.ownBlock ∨ v'.ownBlock = some w.heap.size) → K (a.put o.dst v') w') :
  if Region.wanted o (yielded ops a.tmps) = true then Oper.wp P o a w K Q else E:=by
 have hw:Region.wanted o (yielded ops a.tmps) = true:=by simp [Region.wanted,hgd]
 rw [if_pos hw]
 obtain ⟨v',w',hrun,h2,h3,h4⟩:=z5l (P:=P) w base t o.type e i z size bytes ht hi hz hsize hby hzs hsz v n xs hown A m c news hsrc h63 hbytes hbase
 unfold Oper.wp execOp
 simp only [ho,resolve,invoke,builtin,Sem.run_bind,Sem.run_pure,Result.andThen_ok,List.map_toArray,List.map_cons,List.map_nil,hs,hx,hrun]
 exact h v' w' h2 h3 h4
end
theorem z06.nilv (S:Nat → Prop) (w:World) (a:Option Addr) (cap:Nat) (h:cap ≤ 9223372036854775807):z06 S w (.slice a 0 cap) [] :=
 ⟨0,0,⟨a,cap,rfl,Nat.zero_le _,h,fun h => absurd h (Nat.lt_irrefl 0),fun h => absurd h (Nat.lt_irrefl 0)⟩,fun j t hj => by simp at hj⟩
def z0x (S:Nat → Prop) (w:World):List Value → List RTerm → Prop
 | xs,[] => xs = []
 | xs,t :: r => ∃ vd vo ys,xs = .bool t.c.neg :: vd :: vo :: ys ∧ U32s S w vd t.c.mag ∧ Pows S w vo t.m ∧ z0x S w ys r
section
variable {S S':Nat → Prop} {w w':World}
theorem z0x.append {xs ys:List Value} {p q:List RTerm} (h:z0x S w xs p) (k:z0x S w ys q):z0x S w (xs ++ ys) (p ++ q):=by
 induction p generalizing xs with
 | nil =>
  have e:xs = []:=h
  subst e
  exact k
 | cons t r ih =>
  obtain ⟨vd,vo,zs,rfl,h1,h2,h3⟩:=h
  exact ⟨vd,vo,zs ++ ys,rfl,h1,h2,ih h3⟩
theorem z0x.to {xs:List Value} {p:List RTerm} (h:z0x S w xs p) (hk:Kept S w w') (hS:∀ k,S k → S' k):z0x S' w' xs p:=by
 induction p generalizing xs with
 | nil => exact h
 | cons t r ih =>
  obtain ⟨vd,vo,zs,rfl,h1,h2,h3⟩:=h
  exact ⟨vd,vo,zs,rfl,h1.to hk hS,h2.to hk hS,ih h3⟩
theorem z0x.length {xs:List Value} {p:List RTerm} (h:z0x S w xs p):xs.length = p.length * 3:=by
 induction p generalizing xs with
 | nil =>
  have e:xs = []:=h
  subst e
  rfl
 | cons t r ih =>
  obtain ⟨vd,vo,zs,rfl,h1,h2,h3⟩:=h
  simp only [List.length_cons,ih h3]
  omega
theorem z0x.get {xs:List Value} {p:List RTerm} (h:z0x S w xs p) {j:Nat} {t:RTerm} (ht:p[j]? = some t) :
  ∃ vd vo,xs[j * 3]? = some (.bool t.c.neg) ∧ xs[j * 3 + 1]? = some vd ∧ xs[j * 3 + 2]? = some vo ∧ U32s S w vd t.c.mag ∧ Pows S w vo t.m:=by
 induction p generalizing xs j with
 | nil => simp at ht
 | cons u r ih =>
  obtain ⟨vd,vo,zs,rfl,h1,h2,h3⟩:=h
  cases j with
  | zero =>
   obtain rfl:u = t:=by simpa using ht
   exact ⟨vd,vo,rfl,rfl,rfl,h1,h2⟩
  | succ j =>
   obtain ⟨vd',vo',g⟩:=ih h3 (j:=j) (by simpa using ht)
   refine ⟨vd',vo',?_⟩
   rw [show (j + 1) * 3 = j * 3 + 1 + 1 + 1 by omega]
   simpa using g
theorem z0x.one {xs:List Value} {p:List RTerm} (h:z0x S w xs p):∀ u ∈ xs,u.oneCell' = true:=by
 induction p generalizing xs with
 | nil =>
  have e:xs = []:=h
  subst e
  intro u hu
  simp at hu
 | cons t r ih =>
  obtain ⟨vd,vo,zs,rfl,h1,h2,h3⟩:=h
  intro u hu
  simp only [List.mem_cons] at hu
  rcases hu with rfl | rfl | rfl | hu
  ·rfl
  ·obtain ⟨a,c,rfl⟩:=h1.form; rfl
  ·obtain ⟨a,c,rfl⟩:=h2.form; rfl
  ·exact ih h3 u hu
theorem z0x.single {vd vo:Value} {t:RTerm} (h1:U32s S w vd t.c.mag) (h2:Pows S w vo t.m):z0x S w [.bool t.c.neg,vd,vo] [t]:=⟨vd,vo,[],rfl,h1,h2,rfl⟩
end
theorem z6z {S:Nat → Prop} {w:World} {base:Nat} {e:TypeId} {v:Value} {xs:List Value} {p:List RTerm} (h:w.ownsRow base e 3 v p.length xs) (hc:z0x S w xs p) (hB:∀ k,base ≤ k → k < w.heap.size → S k):z06 S w v p:=by
 have hlt:=h.lt
 rcases h.2 with ⟨rfl,h0⟩ | ⟨g,cap,cur,rfl,hg,hh,h1,h2,h3,h4⟩
 ·obtain rfl:p = []:=List.length_eq_zero_iff.1 h0
  exact z06.nilv _ _ _ _ (by omega)
 ·refine ⟨g,0,⟨_,cap,rfl,h1,h2,fun _ => rfl,fun _ => hB g (hlt g rfl).1 (hlt g rfl).2⟩,fun j t hj => ?_⟩
  obtain ⟨vd,vo,g1,g2,g3,g4,g5⟩:=hc.get hj
  have hb:=z05 hj
  refine ⟨vd,vo,?_,?_,?_,g4,g5⟩
  ·rw [h.cellAt (0 + j * 3) (by omega),Nat.zero_add]
   exact g1
  ·rw [h.cellAt (0 + j * 3 + 1) (by omega),Nat.zero_add]
   exact g2
  ·rw [h.cellAt (0 + j * 3 + 2) (by omega),Nat.zero_add]
   exact g3
theorem Tryz.infoTerm:(Tryz.prog.info? 50).map (fun i => (i.zero,i.size,i.bytes)) = some (some (.agg #[.bool false,.slice none 0 0,.slice none 0 0]),3,56):=by kernel_rfl
section
variable {w w1 w2:World} {o:Value} {e:TypeId} {size n:Nat} {xs:List Value}
theorem z2r (hx:Ext w w1) (ho:w1.ownsRow w.heap.size e size o n xs) (hg:w1.grownBy w2 o.ownBlock):Ext w w2:=z0n hx hg (fun k hk => (ho.lt k hk).1)
end
theorem zy5 {p:PZ} {k:Nat} {t:Int × Mono} (h:p[k]? = some t):ofP (p.take (k + 1)) = ofP (p.take k) ++ [⟨ofI t.1,t.2⟩]:=by
 rw [List.take_add_one,h]
 unfold ofP
 rw [List.map_append]
 rfl
theorem z7k (p:PZ):(ofP p).length = p.length:=by unfold ofP; rw [List.length_map]
abbrev z60 (w w1:World) (o:Value):Nat → Prop:=fun k => New w w1 k ∧ some k ≠ o.ownBlock
theorem z1g {w w1 w2:World} {o:Value} {xs:List Value} {l:List RTerm} (h:z0x (z60 w w1 o) w1 xs l) (hx:Ext w1 w2):z0x (z60 w w2 o) w2 xs l :=
 h.to (Kept.ext hx (fun _ h => h.1.2)) (fun _ h => ⟨⟨h.1.1,Nat.lt_of_lt_of_le h.1.2 hx.size⟩,h.2⟩)
theorem z47 {w w2 w3:World} {o v3:Value} {xs:List Value} {l:List RTerm} {B:Nat} (h:z0x (z60 w w2 o) w2 xs l) (hg:w2.grownBy w3 o.ownBlock) (hb:v3.ownBlock = o.ownBlock ∨ v3.ownBlock = some B) (hB:w2.heap.size ≤ B):z0x (z60 w w3 v3) w3 xs l :=
 h.to (Kept.grown hg (fun _ h => ⟨h.1.2,h.2⟩)) (fun k hk => ⟨⟨hk.1.1,Nat.lt_of_lt_of_le hk.1.2 hg.size⟩,by
  rcases hb with e | e
  ·rw [e]; exact hk.2
  ·rw [e]
   intro e2
   have e3:k = B:=Option.some.inj e2
   have:=hk.1.2
   omega⟩)
theorem zbi {w w0 w1:World} {o:Value} {e:TypeId} {size n:Nat} {xs:List Value} {l:List RTerm} {ys:List Value} (h0:w.heap.size ≤ w0.heap.size) (ho:w0.ownsRow w.heap.size e size o n ys) (h:z0x (New w0 w1) w1 xs l):z0x (z60 w w1 o) w1 xs l :=
 h.to (Kept.refl _ _) (fun k hk => ⟨⟨Nat.le_trans h0 hk.1,hk.2⟩,fun e => by
  have:=(ho.lt k e.symm).2
  have:=hk.1
  omega⟩)
theorem zbj (w:World) (cs:Array Value) (e:TypeId) {size:Nat} (h1:∀ u ∈ cs.toList,u.oneCell' = true) (hs:cs.size = size):zcs (w.alloc (.cells cs e)) (some ⟨w.heap.size,0,none⟩) 1 size cs.toList :=
 ⟨by simpa using hs,h1,fun _ => ⟨_,rfl,fun j u hu => by
  rw [z8d,Nat.zero_add]
  exact z04 w cs e rfl (by simpa using hu)⟩⟩
theorem zft {w1 w3:World} {v:Value} {n:Nat} {m:Mono} {e:TypeId} (h:w3.ownsRow w1.heap.size e 2 v (0 + n) ([] ++ z4b m)) (hn:n = m.length) (hb:inBounds m):∃ a c,v = .slice a n c ∧ Pows (New w1 w3) w3 v m:=by
 subst hn
 rw [Nat.zero_add,List.nil_append] at h
 have hp:=z8p h hb
 obtain ⟨a,c,rfl⟩:=hp.form
 exact ⟨a,c,rfl,hp⟩
theorem zrw {w1 w3:World} {cs:Array Value} {e:TypeId} (hg:(w1.alloc (.cells cs e)).grownBy w3 (some w1.heap.size)):Ext w1 w3 :=
 z0n (Ext.alloc (Ext.refl w1) _) hg (fun k hk => by
  have:w1.heap.size = k:=Option.some.inj hk
  omega)
theorem znf {wr w1 w3:World} (hx:Ext wr w1) (hg:w1.grownBy w3 (some wr.heap.size)):Ext wr w3 :=
 z0n hx hg (fun k hk => by
  have:wr.heap.size = k:=Option.some.inj hk
  omega)
theorem zng {wr w1 w3:World} {o:Obj} {v:Value} {zs:List Nat} (h:U32s (New (wr.alloc o) w1) w1 v zs) (hg:w1.grownBy w3 (some wr.heap.size)):U32s (New wr w3) w3 v zs:=by
 have hne:∀ k,New (wr.alloc o) w1 k → wr.heap.size + 1 ≤ k:=fun k hk => by have:=hk.1; rw [z02] at this; exact this
 exact h.to (Kept.grown hg (fun k hk => ⟨hk.2,fun e => by
  have e2:k = wr.heap.size:=Option.some.inj e
  have:=hne k hk
  omega⟩)) (fun k hk => ⟨by have:=hne k hk; omega,Nat.lt_of_lt_of_le hk.2 hg.size⟩)
theorem z7l {S:Nat → Prop} (v:Value) (p:PZ) (w:World) (h:RTs S w v p) (hS:∀ k,S k → k < w.heap.size) (hsz:szP p) (hml:∀ t ∈ p,t.2.length ≤ 1000000) :
  Calls Tryz.prog 15 #[v] w fun e w' => ∃ v',e = .returned v' ∧ z06 (New w w') w' v' (ofP p) ∧ Ext w w':=by
 obtain ⟨i0,hi,hz0,hz1,hz2⟩:=info_parts Tryz.infoPower
 obtain ⟨j0,hj,jz0,jz1,jz2⟩:=info_parts Tryz.infoTerm
 have hl:=h.len_le
 have H:=hid h
 have HSZ:=hid hsz
 have HML:=hid hml
 obtain ⟨a,cap,rfl⟩:=h.form
 clear h hsz hml
 go_enter Tryz.func15,Tryz.ntmps15
 go_wp2
 go_loopw [3,4] (fun o i wr => ∃ k xs,k ≤ p.length ∧ i = .int .i64 (k:Nat) ∧ Ext w wr ∧ Hid (wr.ownsRow w.heap.size 50 3 o k xs) ∧ Hid (z0x (z60 w wr o) wr xs (ofP (p.take k)))) (fun _ i _ => p.length - (intOf i).toNat)
 case atStart => exact ⟨0,[],Nat.zero_le _,rfl,Ext.refl _,hid (World.ownsRow_nil _ _ _ _),hid rfl⟩
 case round =>
  obtain ⟨k,xs,hk,rfl,hx,HW,HXS⟩:=hrel
  have HX:=hid hx
  by_cases hlt:k < p.length
  ·obtain ⟨t,ht⟩:=z01 hlt
   obtain ⟨b,off,vd,vo,rfl,-,hn1,hm1,hSb,h1,h2,h3,h4,h5⟩:=H.out.cellAt ht
   have HT:=hid (zy5 ht)
   have HTM:=hid (HML.out t (List.mem_of_getElem? ht))
   have HTZ:=hid (HSZ.out.2 t (List.mem_of_getElem? ht))
   have H4:=hid h4
   have H5:=hid h5
   have HIB:=hid h5.inBounds
   obtain ⟨ad,cd,rfl⟩:=h4.form
   obtain ⟨ao,co,rfl⟩:=h5.form
   have x0:Ext w wr.drew:=hx.drew
   have HX0:=hid x0
   have HXR:=hid ((Ext.refl wr).drew)
   have h0:_ ∧ _ ∧ _:=And.intro h1 (And.intro h2 h3)
   have c1:=fun (W:World) (hW:Ext wr.drew W) => zvx (S:=S) _ t.1 W (show ZV S W (.agg #[.bool (decide (t.1 < 0)),.slice ad (rep 10 t.1.natAbs).length cd]) t.1 from ⟨_,rfl,H4.out.ext (HX0.out.trans hW) hS⟩) (z08 hS (HX0.out.trans hW)) HTZ.out
   obtain ⟨bt,hbt⟩:∃ b,b = decide (t.1 < 0):=⟨_,rfl⟩
   obtain ⟨nt,hnt⟩:∃ n,n = (rep 10 t.1.natAbs).length:=⟨_,rfl⟩
   obtain ⟨nm,hnm⟩:∃ n,n = t.2.length:=⟨_,rfl⟩
   have HNM:=hid hnm
   rw [← hbt,← hnt,← hnm] at h0
   rw [← hbt,← hnt] at c1
   rw [← hnm] at H5
   have HC0:=hid h0
   have S0:_ ∧ _ ∧ _:=And.intro (x0.cell h0.1) (And.intro (x0.cell h0.2.1) (x0.cell h0.2.2))
   have C1:=hid c1
   have HB1:Hid (0 + nm ≤ maxLen):=hid (by have:=HTM.out; rw [← hnm] at this; unfold maxLen; omega)
   have HB2:Hid ((0 + nm) * 16 ≤ 140737488355328):=hid (by have:=HTM.out; rw [← hnm] at this; omega)
   have HB3:Hid (k + 1 ≤ maxLen):=hid (by have:=HSZ.out.1; unfold maxLen; omega)
   have HB4:Hid ((k + 1) * 56 ≤ 140737488355328):=hid (by have:=HSZ.out.1; omega)
   have HM0:Hid (0 ≤ maxLen):=hid (Nat.zero_le _)
   have HWR:=hid (z0z HW.out HXR.out)
   have HXSR:=hid (z1g HXS.out HXR.out)
   clear ht h0 h1 h2 h3 h4 h5 hx x0 c1 hbt hnt hnm
   go_wp2
   go_region_held3 (fun W => W.cell? ⟨b,off + k * 3,none⟩ = some (.bool bt) ∧ W.cell? ⟨b,off + k * 3 + 1,none⟩ = some (.slice ad nt cd) ∧ W.cell? ⟨b,off + k * 3 + 2,none⟩ = some (.slice ao nm co)) (first | exact S0 | exact ⟨cell_old _ S0.1,cell_old _ S0.2.1,cell_old _ S0.2.2⟩ | exact S1 | exact ⟨cell_old _ S1.1,cell_old _ S1.2.1,cell_old _ S1.2.2⟩ | exact S3 | exact ⟨cell_old _ S3.1,cell_old _ S3.2.1,cell_old _ S3.2.2⟩ | exact S5)
    (first
     | (go_at_call 35; refine (C1.out _ ?_).mono ?_; · exact Ext.refl _
        rintro e w1 ⟨v1,rfl,hz1,hx1⟩; have HX1:=hid hx1; have HXW1:Hid (Ext w w1):=hid (HX0.out.trans hx1); have S1:_ ∧ _ ∧ _:=And.intro (HXW1.out.cell HC0.out.1) (And.intro (HXW1.out.cell HC0.out.2.1) (HXW1.out.cell HC0.out.2.2))
        obtain ⟨vm,rfl,hu1⟩:=hz1; have HU1:=hid hu1; obtain ⟨am,cm,rfl⟩:=hu1.form; obtain ⟨ng,hng⟩:∃ b,b = (ofI t.1).neg:=⟨_,rfl⟩; obtain ⟨nl,hnl⟩:∃ b,b = (ofI t.1).mag.length:=⟨_,rfl⟩; rw [← hng,← hnl]; rw [← hnl] at HU1; have HNG:=hid hng; have HNL:=hid hnl
        have HOA:=hid (World.ownsRow_made (base:=w1.heap.size) (e:=52) (size:=2) w1 #[] 0 (Nat.le_refl _) HM0.out rfl); have HSRC1:=hid ((Pows.ext' H5.out (HXW1.out.alloc (.cells #[] 52)) hS).src.2); have HBS:=hid (World.grownBy_alloc w1 (.cells #[] 52) none).size; clear hx1 hu1 hng hnl)
     | (go_at_call 35; refine (C1.out _ ?_).mono ?_; · exact Ext.alloc (Ext.refl _) _
        rintro e w1 ⟨v1,rfl,hz1,hx1⟩; have HX1:Hid (Ext (wr.drew.alloc (.cells #[] 52)) w1):=hid hx1; have HXR1:=hid ((Ext.alloc (Ext.refl wr.drew) (.cells #[] 52)).trans hx1); have HXW1:Hid (Ext w w1):=hid (HX0.out.trans HXR1.out); have S1:_ ∧ _ ∧ _:=And.intro (HXW1.out.cell HC0.out.1) (And.intro (HXW1.out.cell HC0.out.2.1) (HXW1.out.cell HC0.out.2.2))
        obtain ⟨vm,rfl,hu1⟩:=hz1; have HU1:Hid (U32s (New (wr.drew.alloc (.cells #[] 52)) w1) w1 vm (ofI t.1).mag):=hid hu1; obtain ⟨am,cm,rfl⟩:=hu1.form; obtain ⟨ng,hng⟩:∃ b,b = (ofI t.1).neg:=⟨_,rfl⟩; obtain ⟨nl,hnl⟩:∃ b,b = (ofI t.1).mag.length:=⟨_,rfl⟩; rw [← hng,← hnl]; rw [← hnl] at HU1; have HNG:=hid hng; have HNL:=hid hnl
        have HOB:=hid (z0z (World.ownsRow_made (base:=wr.heap.size) (e:=52) (size:=2) wr.drew #[] 0 (Nat.le_refl _) HM0.out rfl) hx1); have HSRC1:=hid ((Pows.ext' H5.out HXW1.out hS).src.2); have HBS:=hid HXR1.out.size; clear hx1 hu1 hng hnl)
     | (refine z2g rfl (.tmp 18) (.tmp 23) 48 rfl w1.heap.size 52 i0 (.agg #[.int .i64 0,.int .i64 0]) 2 16 Tryz.underlying48 hi hz0 hz1 hz2 rfl (Nat.succ_pos _) (.slice (some ⟨w1.heap.size,0,none⟩) 0 0) 0 [] rfl HOA.out ao nm co (z4b t.2) rfl HSRC1.out HB1.out HB2.out HBS.out ?_; intro v3 w3 hown hg _; obtain ⟨a3,c3,rfl,hp3⟩:=zft hown HNM.out HIB.out; have hx3:=zrw hg; have HXR3:Hid (Ext wr.drew w3):=hid (HX1.out.trans hx3); have HP3:Hid (Pows (New wr.drew w3) w3 (.slice a3 nm c3) t.2):=hid (hp3.to (Kept.refl _ _) (fun k h => ⟨Nat.le_trans HX1.out.size h.1,h.2⟩)); have HU3:Hid (U32s (New wr.drew w3) w3 (.slice am nl cm) (ofI t.1).mag):=hid (HU1.out.to (Kept.ext hx3 (fun _ h => h.2)) (fun k h => ⟨h.1,Nat.lt_of_lt_of_le h.2 hx3.size⟩)); clear hx3 hown hg hp3; have HXW3:Hid (Ext w w3):=hid (HX0.out.trans HXR3.out); have S3:_ ∧ _ ∧ _:=And.intro (HXW3.out.cell HC0.out.1) (And.intro (HXW3.out.cell HC0.out.2.1) (HXW3.out.cell HC0.out.2.2)); have HW3:=hid (z0z (z0z HWR.out HXR3.out) (Ext.alloc (Ext.refl w3) (.cells #[.bool ng,.slice am nl cm,.slice a3 nm c3] 50))); have HXS3:=hid (z1g HXSR.out HXR3.out); have HSRC3:=hid (zbj w3 #[.bool ng,.slice am nl cm,.slice a3 nm c3] 50 (z2f rfl rfl rfl) rfl); have HB5:=hid (Nat.le_trans HXW3.out.size (World.grownBy_alloc w3 (.cells #[.bool ng,.slice am nl cm,.slice a3 nm c3] 50) none).size))
     | (refine z2g rfl (.tmp 18) (.tmp 23) 48 rfl wr.heap.size 52 i0 (.agg #[.int .i64 0,.int .i64 0]) 2 16 Tryz.underlying48 hi hz0 hz1 hz2 rfl (Nat.succ_pos _) (.slice (some ⟨wr.heap.size,0,none⟩) 0 0) 0 [] rfl HOB.out ao nm co (z4b t.2) rfl HSRC1.out HB1.out HB2.out HBS.out ?_; intro v3 w3 hown hg _; obtain ⟨a3,c3,rfl,hp3⟩:=zft (w1:=wr.drew) hown HNM.out HIB.out; have HXR3:Hid (Ext wr.drew w3):=hid (znf HXR1.out hg); have HP3:Hid (Pows (New wr.drew w3) w3 (.slice a3 nm c3) t.2):=hid hp3; have HU3:Hid (U32s (New wr.drew w3) w3 (.slice am nl cm) (ofI t.1).mag):=hid (zng HU1.out hg); clear HXR1 hown hg hp3; have HXW3:Hid (Ext w w3):=hid (HX0.out.trans HXR3.out); have S3:_ ∧ _ ∧ _:=And.intro (HXW3.out.cell HC0.out.1) (And.intro (HXW3.out.cell HC0.out.2.1) (HXW3.out.cell HC0.out.2.2)); have HW3:=hid (z0z (z0z HWR.out HXR3.out) (Ext.alloc (Ext.refl w3) (.cells #[.bool ng,.slice am nl cm,.slice a3 nm c3] 50))); have HXS3:=hid (z1g HXSR.out HXR3.out); have HSRC3:=hid (zbj w3 #[.bool ng,.slice am nl cm,.slice a3 nm c3] 50 (z2f rfl rfl rfl) rfl); have HB5:=hid (Nat.le_trans HXW3.out.size (World.grownBy_alloc w3 (.cells #[.bool ng,.slice am nl cm,.slice a3 nm c3] 50) none).size))
     | (refine z2g rfl (.tmp 11) (.tmp 26) 23 rfl w.heap.size 50 j0 (.agg #[.bool false,.slice none 0 0,.slice none 0 0]) 3 56 Tryz.underlying23 hj jz0 jz1 jz2 rfl (Nat.succ_pos _) _ k xs rfl HW3.out (some ⟨w3.heap.size,0,none⟩) 1 1 _ rfl HSRC3.out HB3.out HB4.out HB5.out ?_; intro v5 w5 hown hg hbk; have HW5:=hid hown; have HG5:=hid hg; have HBK:=hid hbk; have HX5:=hid (z2r (HXW3.out.alloc (.cells #[.bool ng,.slice am nl cm,.slice a3 nm c3] 50)) HW3.out hg); have S5:_ ∧ _ ∧ _:=And.intro (HX5.out.cell HC0.out.1) (And.intro (HX5.out.cell HC0.out.2.1) (HX5.out.cell HC0.out.2.2)); clear hown hg hbk))
   all_goals
    go_wp2
    go_roundw
    case rel =>
     refine ⟨k + 1,xs ++ (#[.bool ng,.slice am nl cm,.slice a3 nm c3]:Array Value).toList,by omega,by go_num,HX5.out,HW5,hid ?_⟩
     rw [HT.out]
     have hone:z0x (New wr.drew w3) w3 (#[.bool ng,.slice am nl cm,.slice a3 nm c3]:Array Value).toList [⟨ofI t.1,t.2⟩]:=by
      rw [HNG.out]
      exact z0x.single (t:=⟨ofI t.1,t.2⟩) HU3.out HP3.out
     have hall:=HXS3.out.append (zbi HX0.out.size HWR.out hone)
     exact z47 (z1g hall (Ext.alloc (Ext.refl w3) (.cells #[.bool ng,.slice am nl cm,.slice a3 nm c3] 50))) HG5.out HBK.out (Nat.le_refl _)
    case measure => simp only [intOf]; omega
  ·obtain rfl:k = p.length:=by omega
   have HE:Hid (p.take p.length = p):=hid List.take_length
   clear hx
   go_wp2
   go_ret
   refine ⟨_,rfl,?_,HX.out⟩
   have hc:=HXS.out
   rw [HE.out] at hc
   exact z6z (by rw [z7k]; exact HW.out) (hc.to (Kept.refl _ _) (fun _ h => h.1)) (fun k h1 h2 => ⟨h1,h2⟩)
end
section
open Go.RowKit
theorem znh {z:Int} {n:Nat} (h:z.natAbs < 10 ^ n) (hn:n ≤ 2000000):szZ z:=Nat.le_trans (z0f z0h _ _ h) hn
theorem zw2 {n:Nat} (h:n < 9223372036854775808):szZ (n:Int):=znh (n:=19) (by simp only [Int.natAbs_natCast]; omega) (by omega)
def numP (n:Nat):PZ:=putP [] (n:Int) []
theorem zbk (n:Nat) (w:World) (hn:n < 9223372036854775808) :
  Calls Tryz.prog 14 #[.int .i64 (n:Nat)] w fun e w' => ∃ v',e = .returned v' ∧ RTs (New w w') w' v' (numP n) ∧ Ext w w':=by
 have C1:=hid (zfp n w hn)
 have HZ:=hid (zw2 hn)
 clear hn
 go_enter Tryz.func14,Tryz.ntmps14
 go_wp2_with fail
 refine C1.out.mono ?_
 rintro e w1 ⟨v1,rfl,hz1,hx1⟩
 have HX1:=hid hx1
 have C2:=hid (zbg (S:=New w w1) (.slice none 0 0) v1 (.slice none 0 0) [] (n:Int) [] w1 (fun _ h => h.2) (RTs.nilv _ _ _ _ (by omega)) hz1 (Pows.empty _ _ _) z2u.may rfl ⟨by simp,fun t ht => by simp at ht⟩ HZ.out)
 clear hx1 hz1
 go_wp2_with fail
 refine C2.out.mono ?_
 rintro e w2 ⟨v2,rfl,hp2,hx2⟩
 have HX2:=hid (HX1.out.trans hx2)
 have HP2:Hid (RTs (New w w2) w2 v2 (numP n)):=hid (hp2.to (Kept.refl _ _) (fun k hk => by
  rcases hk with h | h
  ·exact ⟨h.1,Nat.lt_of_lt_of_le h.2 hx2.size⟩
  ·exact ⟨Nat.le_trans HX1.out.size h.1,h.2⟩))
 clear hp2 hx2
 go_wp2
 all_goals
  go_ret
  exact ⟨_,rfl,HP2.out,HX2.out⟩
theorem zni (x:Int) (w:World) (hx:z1v x) :
  Calls Tryz.prog 11 #[.int .i64 x] w fun e w' => ∃ v',e = .returned v' ∧ RTs (New w w') w' v' [(1,[(x,1)])] ∧ Ext w w':=by
 have C1:=hid (zfp 1 w (by omega))
 have HXX:=hid hx
 clear hx
 go_enter Tryz.func11,Tryz.ntmps11
 go_wp2_with fail
 refine C1.out.mono ?_
 rintro e w1 ⟨v1,rfl,hz1,hx1⟩
 obtain ⟨vd,rfl,hd⟩:=hz1
 have HX1:=hid hx1
 have HD:=hid hd
 obtain ⟨ad,cd,rfl⟩:=hd.form
 obtain ⟨nd,hnd⟩:∃ n,n = (rep 10 ((1:Nat):Int).natAbs).length:=⟨_,rfl⟩
 obtain ⟨bd,hbd⟩:∃ b,b = decide (((1:Nat):Int) < 0):=⟨_,rfl⟩
 rw [← hnd] at HD ⊢
 rw [← hbd]
 have HB:=hid hbd
 clear hx1 hd hnd hbd
 go_wp2
 go_ret
 have x2:Ext w1 ((w1.alloc (.cells #[.int .i64 x,.int .i64 1] 52)).alloc (.cells #[.bool bd,.slice ad nd cd,.slice (some ⟨w1.heap.size,0,none⟩) 1 1] 105)):=(Ext.alloc (Ext.alloc (Ext.refl w1) _) _)
 have hb:(w1.alloc (.cells #[.int .i64 x,.int .i64 1] 52)).heap.size = w1.heap.size + 1:=z02 _ _
 refine ⟨_,rfl,?_,HX1.out.trans x2⟩
 refine ⟨w1.heap.size + 1,0,⟨_,1,rfl,Nat.le_refl _,by decide,fun _ => by rw [← hb],fun _ => ⟨Nat.le_trans HX1.out.size (Nat.le_succ _),by rw [z02,hb] <;> omega⟩⟩,fun j t hj => ?_⟩
 have hj0:j = 0:=by have:=z05 hj; simp at this; exact this
 subst hj0
 obtain rfl:(1,[(x,1)]) = t:=by simpa using hj
 refine ⟨.slice ad nd cd,.slice (some ⟨w1.heap.size,0,none⟩) 1 1,?_,?_,?_,HD.out.to (Kept.ext x2 (fun _ h => h.2)) (fun k h => ⟨h.1,Nat.lt_of_lt_of_le h.2 x2.size⟩),?_⟩
 ·exact z04 _ _ _ (by rw [hb]) (by rw [HB.out]; rfl)
 ·exact z04 _ _ _ (by rw [hb]) rfl
 ·exact z04 _ _ _ (by rw [hb]) rfl
 ·refine ⟨w1.heap.size,0,⟨_,1,rfl,Nat.le_refl _,by decide,fun _ => rfl,fun _ => ⟨HX1.out.size,by rw [z02,hb] <;> omega⟩⟩,fun j t hj => ?_⟩
  have hj0:j = 0:=by have:=z05 hj; simp at this; exact this
  subst hj0
  obtain rfl:(x,1) = t:=by simpa using hj
  have hin:z1v (1:Int):=by unfold z1v; omega
  exact ⟨⟨HXX.out,hin⟩,cell_old _ (z04 _ _ _ rfl rfl),cell_old _ (z04 _ _ _ rfl rfl)⟩
end
section
open Go.RowKit
def z9m (t u:Int × Mono):Option (Int × Mono):=(z50 t.2 u.2).map fun m => (t.1 * u.1,m)
def z4j (p q:PZ):List (Option (Int × Mono)):=p.flatMap fun t => q.map (z9m t)
def allO:List (Option (Int × Mono)) → Option PZ
 | [] => some []
 | none :: _ => none
 | some x :: r => (allO r).map (x :: ·)
def z0g (p q:PZ):Option PZ:=(allO (z4j p q)).map z1t
theorem zfu {xs:PZ}:allO (xs.map some) = some xs:=by
 induction xs with
 | nil => rfl
 | cons x r ih => simp only [List.map_cons,allO,ih,Option.map_some]
theorem zfv {l r:List (Option (Int × Mono))}:allO (l ++ none :: r) = none:=by
 induction l with
 | nil => rfl
 | cons x l ih =>
  cases x with
  | none => rfl
  | some x => simp only [List.cons_append,allO,ih,Option.map_none]
def bndP (p:PZ) (L M:Nat):Prop:=p.length ≤ L ∧ ∀ t ∈ p,t.1.natAbs ≤ M
theorem zix (p:PZ) (c:Int) (m:Mono):(putP p c m).length ≤ p.length + 1:=by
 induction p with
 | nil => simp only [putP]; split <;> simp
 | cons t r ih =>
  simp only [putP]
  split
  ·simp only [List.length_cons]; omega
  ·split
   ·split <;> simp only [List.length_cons] <;> omega
   ·split <;> simp only [List.length_cons] <;> omega
theorem zrx {p:PZ} {c:Int} {m:Mono} {M N:Nat} (h:∀ t ∈ p,t.1.natAbs ≤ M) (hc:c.natAbs ≤ N):∀ t ∈ putP p c m,t.1.natAbs ≤ M + N:=by
 induction p with
 | nil =>
  intro t ht
  simp only [putP] at ht
  split at ht
  ·simp at ht
  ·rw [List.mem_singleton.1 ht]; simp only; omega
 | cons u r ih =>
  have hu:=h u (by simp)
  have hr:∀ t ∈ r,t.1.natAbs ≤ M:=fun t ht => h t (by simp [ht])
  have ih:=ih hr
  intro t ht
  simp only [putP] at ht
  split at ht
  ·rcases List.mem_cons.1 ht with rfl | ht
   ·omega
   ·exact ih t ht
  ·split at ht
   ·split at ht
    ·have:=hr t ht; omega
    ·rcases List.mem_cons.1 ht with rfl | ht
     ·simp only; omega
     ·have:=hr t ht; omega
   ·split at ht
    ·have:=h t ht; omega
    ·rcases List.mem_cons.1 ht with rfl | ht
     ·simp only; omega
     ·have:=h t ht; omega
theorem zry {p:PZ} {c:Int} {m:Mono} {L M N:Nat} (h:bndP p L M) (hc:c.natAbs ≤ N):bndP (putP p c m) (L + 1) (M + N) :=
 ⟨Nat.le_trans (zix _ _ _) (by have:=h.1; omega),zrx h.2 hc⟩
theorem ziy {p l:PZ} {L M N:Nat} (h:bndP p L M) (hl:∀ t ∈ l,t.1.natAbs ≤ N):bndP (addP p l) (L + l.length) (M + l.length * N):=by
 induction l generalizing p L M with
 | nil => simpa [addP] using h
 | cons t r ih =>
  have h1:=ih (zry (m:=t.2) h (hl t (by simp))) (fun u hu => hl u (by simp [hu]))
  show bndP (addP (putP p t.1 t.2) r) _ _
  simp only [List.length_cons]
  refine ⟨by have:=h1.1; omega,fun u hu => ?_⟩
  have:=h1.2 u hu
  rw [Nat.add_mul]
  omega
theorem zw3:bndP [] 0 0:=⟨by simp,fun t ht => by simp at ht⟩
theorem zbl {p:PZ} {L M n:Nat} (h:bndP p L M) (hL:L ≤ 1000000000000) (hM:M < 10 ^ n) (hn:n ≤ 2000000):szP p :=
 ⟨Nat.le_trans h.1 hL,fun t ht => znh (Nat.lt_of_le_of_lt (h.2 t ht) hM) hn⟩
theorem zfw {m:Mono} {l v e:Int} (h:z0a l m = true) (hv:∀ x ∈ m,x.1 < v) (hl:l < v) (h2:v ≤ 200) (h3:1 ≤ e ∧ e ≤ 10000):z0a l (m ++ [(v,e)]) = true:=by
 induction m generalizing l with
 | nil =>
  simp only [List.nil_append,z0a,Bool.and_true,decide_eq_true_eq]
  omega
 | cons x r ih =>
  simp only [List.cons_append,z0a,Bool.and_eq_true] at h ⊢
  exact ⟨h.1,ih h.2 (fun y hy => hv y (by simp [hy])) (hv x (by simp))⟩
theorem ziz (f:Nat → Int) (k:Nat):∀ x ∈ ofE f k,x.1 ≤ (k:Int):=by
 induction k with
 | zero => intro x hx; simp [ofE] at hx
 | succ k ih =>
  intro x hx
  simp only [ofE] at hx
  split at hx
  ·rcases List.mem_append.1 hx with hx | hx
   ·have:=ih x hx; omega
   ·rw [List.mem_singleton.1 hx]; simp only; omega
  ·have:=ih x hx; omega
theorem znj {f:Nat → Int} {n:Nat} (hn:n ≤ 200) (h:∀ j,1 ≤ j → j ≤ n → f j ≤ 10000):mayM (ofE f n) = true:=by
 induction n with
 | zero => rfl
 | succ k ih =>
  have ih:=ih (by omega) (fun j h1 h2 => h j h1 (by omega))
  simp only [ofE]
  split
  ·rename_i hp
   refine zfw ih (fun x hx => ?_) (by omega) (by omega) ⟨by omega,h (k + 1) (by omega) (Nat.le_refl _)⟩
   have:=ziz f k x hx
   omega
  ·exact ih
theorem zfx {f:Nat → Int} {n:Nat} (h:z69 f n = false):∀ j,1 ≤ j → j ≤ n → f j ≤ 10000:=by
 induction n with
 | zero => intro j h1 h2; omega
 | succ k ih =>
  simp only [z69,Bool.or_eq_false_iff,decide_eq_false_iff_not] at h
  intro j h1 h2
  by_cases e:j = k + 1
  ·subst e; have:=h.2; omega
  ·exact ih h.1 j h1 (by omega)
theorem zd8 {a b m:Mono} (h:z50 a b = some m):mayM m = true:=by
 unfold z50 at h
 split at h
 ·cases h
 ·rename_i ho
  cases h
  exact znj (Nat.le_refl _) (zfx (by simpa using ho))
theorem za6 (p q:PZ):(z4j p q).length = p.length * q.length:=by
 induction p with
 | nil => simp [z4j]
 | cons t r ih =>
  have e:z4j (t :: r) q = q.map (z9m t) ++ z4j r q:=by unfold z4j; rw [List.flatMap_cons]
  rw [e,List.length_append,List.length_map,ih,List.length_cons,Nat.add_mul]
  omega
theorem zfy {p q:PZ} {k j:Nat} {t u:Int × Mono} (ht:p[k]? = some t) (hu:q[j]? = some u):(z4j p q)[k * q.length + j]? = some (z9m t u):=by
 have hj:=z05 hu
 induction p generalizing k with
 | nil => simp at ht
 | cons x r ih =>
  have e:z4j (x :: r) q = q.map (z9m x) ++ z4j r q:=by unfold z4j; rw [List.flatMap_cons]
  rw [e]
  cases k with
  | zero =>
   obtain rfl:x = t:=by simpa using ht
   rw [Nat.zero_mul,Nat.zero_add,List.getElem?_append_left (by rw [List.length_map]; exact hj),List.getElem?_map,hu]
   rfl
  | succ k =>
   have:=ih (k:=k) (by simpa using ht)
   rw [List.getElem?_append_right (by rw [List.length_map,Nat.add_mul]; omega),List.length_map,show (k + 1) * q.length + j - q.length = k * q.length + j by rw [Nat.add_mul]; omega]
   exact this
theorem zd9 {t u x:Int × Mono} (h:z9m t u = some x):mayM x.2 = true ∧ x.1 = t.1 * u.1:=by
 unfold z9m at h
 cases hr:z50 t.2 u.2 with
 | none => rw [hr] at h; simp at h
 | some m =>
  rw [hr] at h
  simp at h
  subst h
  exact ⟨zd8 hr,rfl⟩
theorem znk {p q:PZ} {x:Int × Mono} (h:some x ∈ z4j p q):mayM x.2 = true ∧ ∃ t ∈ p,∃ u ∈ q,x.1 = t.1 * u.1:=by
 unfold z4j at h
 obtain ⟨t,ht,h⟩:=List.mem_flatMap.1 h
 obtain ⟨u,hu,h⟩:=List.mem_map.1 h
 exact ⟨(zd9 h).1,t,ht,u,hu,(zd9 h).2⟩
def z5e (p q:PZ) (n:Nat) (xs:PZ):Prop:=(z4j p q).take n = xs.map some
theorem zbm (p q:PZ):z5e p q 0 []:=rfl
theorem zbn {p q:PZ} {n:Nat} {xs:PZ} {x:Int × Mono} (h:z5e p q n xs) (hx:(z4j p q)[n]? = some (some x)):z5e p q (n + 1) (xs ++ [x]):=by
 unfold z5e at h ⊢
 rw [List.take_add_one,h,hx]
 simp
theorem zbo {p q:PZ} {n:Nat} {xs:PZ} (_h:z5e p q n xs) (hx:(z4j p q)[n]? = some none):z0g p q = none:=by
 unfold z0g
 have e:z4j p q = (z4j p q).take n ++ none :: (z4j p q).drop (n + 1):=by rw [← z6n hx,List.take_append_drop]
 rw [e,zfv]
 rfl
theorem zda {p q:PZ} {n:Nat} {xs:PZ} (h:z5e p q n xs) (hn:n = p.length * q.length):z0g p q = some (z1t xs):=by
 unfold z5e at h
 rw [List.take_of_length_le (by rw [za6]; omega)] at h
 unfold z0g
 rw [h,zfu]
 rfl
theorem z7m {p q:PZ} {n:Nat} {xs:PZ} (h:z5e p q n xs) {x:Int × Mono} (hx:x ∈ xs):mayM x.2 = true ∧ ∃ t ∈ p,∃ u ∈ q,x.1 = t.1 * u.1:=by
 apply znk
 have:some x ∈ (z4j p q).take n:=by rw [h]; exact List.mem_map.2 ⟨x,hx,rfl⟩
 exact List.mem_of_mem_take this
theorem zkz {p q:PZ} {n:Nat} {xs:PZ} (h:z5e p q n xs):xs.length ≤ p.length * q.length:=by
 have h1:((z4j p q).take n).length = xs.length:=by rw [h,List.length_map]
 rw [← h1,List.length_take,za6]
 exact Nat.min_le_right _ _
def szM (p q:PZ):Prop:=∃ N n,(∀ t ∈ p,∀ u ∈ q,(t.1 * u.1).natAbs ≤ N) ∧ p.length * q.length ≤ 1000000000000 ∧ p.length * q.length * N < 10 ^ n ∧ n ≤ 2000000
theorem znl {p q:PZ} {n:Nat} {xs:PZ} (h:z5e p q n xs) (hs:szM p q):szP (z1t xs):=by
 obtain ⟨N,e,h1,h2,h3,h4⟩:=hs
 have hl:=zkz h
 have hb:=ziy (N:=N) zw3 (l:=xs) (fun t ht => by
  obtain ⟨_,a,ha,b,hb,hh⟩:=z7m h ht
  rw [hh]
  exact h1 a ha b hb)
 simp only [Nat.zero_add] at hb
 exact zbl hb (by omega) (Nat.lt_of_le_of_lt (Nat.mul_le_mul_right N hl) h3) h4
theorem zw4 {p q:PZ} (hs:szM p q) {t u:Int × Mono} (ht:t ∈ p) (hu:u ∈ q):szZ (t.1 * u.1):=by
 obtain ⟨N,e,h1,h2,h3,h4⟩:=hs
 have h5:=h1 t ht u hu
 have hp:0 < p.length:=List.length_pos_of_mem ht
 have hq:0 < q.length:=List.length_pos_of_mem hu
 have:1 * N ≤ p.length * q.length * N:=Nat.mul_le_mul_right N (Nat.mul_pos hp hq)
 exact znh (Nat.lt_of_le_of_lt (by omega) h3) h4
end
section
open Go.RowKit
def zy6:Option PZ → Bool
 | none => false
 | some _ => true
def zj0:Option PZ → PZ
 | none => []
 | some p => p
theorem zht {S:Nat → Prop} (vp vq:Value) (p q:PZ) (w:World) (hS:∀ k,S k → k < w.heap.size) (hp:RTs S w vp p) (hq:RTs S w vq q) (hmp:z0k p) (hmq:z0k q) (hszp:szP p) (hszq:szP q) (hsz:szM p q) :
  Calls Tryz.prog 33 #[vp,vq] w fun e w' => ∃ v',e = .returned (.tuple #[v',.bool (zy6 (z0g p q))]) ∧ RTs (Plus S w w') w' v' (zj0 (z0g p q)) ∧ Ext w w':=by
 have hlp:=hp.len_le
 have hlq:=hq.len_le
 have HP:=hid hp
 have HQ:=hid hq
 have HMP:=hid hmp
 have HMQ:=hid hmq
 have HZP:=hid hszp
 have HZQ:=hid hszq
 have HSZ:=hid hsz
 obtain ⟨ap,cp,rfl⟩:=hp.form
 obtain ⟨aq,cq,rfl⟩:=hq.form
 obtain ⟨R,hR⟩:∃ R,R = z0g p q:=⟨_,rfl⟩
 rw [← hR]
 have HR:=hid hR
 clear hp hq hmp hmq hszp hszq hsz hR
 go_enter Tryz.func33,Tryz.ntmps33
 go_wp2
 go_loopw [6,7] (fun o i wr => ∃ k xs n,k ≤ p.length ∧ i = .int .i64 (k:Nat) ∧ Ext w wr ∧ Hid (n = k * q.length) ∧ Hid (z5e p q n xs) ∧ Hid (RTs (Plus S w wr) wr o (z1t xs))) (fun _ i _ => p.length - (intOf i).toNat)
 case atStart => exact ⟨0,[],0,Nat.zero_le _,rfl,Ext.refl _,hid (by rw [Nat.zero_mul]),hid (zbm _ _),hid (RTs.nilv _ _ _ _ (by omega))⟩
 case round =>
  obtain ⟨k,xs,n,hk,rfl,hx,HN,HF,HO⟩:=hrel
  have HX:=hid hx
  by_cases hlt:k < p.length
  ·obtain ⟨t,ht⟩:=z01 hlt
   have HT:=hid ht
   clear ht hx
   go_wp2
   go_loopw [6,8] (fun o i wr => ∃ j xs n,j ≤ q.length ∧ i = .int .i64 (j:Nat) ∧ Ext w wr ∧ Hid (n = k * q.length + j) ∧ Hid (z5e p q n xs) ∧ Hid (RTs (Plus S w wr) wr o (z1t xs))) (fun _ i _ => q.length - (intOf i).toNat)
   case atStart => exact ⟨0,xs,n,Nat.zero_le _,rfl,HX.out,hid (by rw [HN.out,Nat.add_zero]),HF,HO⟩
   case round =>
    clear HO HF HN HX
    clear xs n
    obtain ⟨j,xs,n,hj,rfl,hx,HN,HF,HO⟩:=hrel
    have HX:=hid hx
    by_cases hlj:j < q.length
    ·obtain ⟨u,hu⟩:=z01 hlj
     have HGET:Hid ((z4j p q)[n]? = some (z9m t u)):=hid (by rw [HN.out]; exact zfy HT.out hu)
     have HTP:=hid (List.mem_of_getElem? HT.out)
     have HUQ:=hid (List.mem_of_getElem? hu)
     obtain ⟨b,off,vd,vo,rfl,-,hn1,hm1,hSb,h1,h2,h3,h4,h5⟩:=HP.out.cellAt HT.out
     obtain ⟨b',off',vd',vo',rfl,-,hn1',hm1',hSb',h1',h2',h3',h4',h5'⟩:=HQ.out.cellAt hu
     have H4:=hid h4
     have H5:=hid h5
     have H4':=hid h4'
     have H5':=hid h5'
     obtain ⟨ad,cd,rfl⟩:=h4.form
     obtain ⟨ao,co,rfl⟩:=h5.form
     obtain ⟨ad',cd',rfl⟩:=h4'.form
     obtain ⟨ao',co',rfl⟩:=h5'.form
     have x0:Ext w wr.drew:=hx.drew
     have HX0:=hid x0
     have HXR:=hid ((Ext.refl wr).drew)
     have S0:_ ∧ _:=And.intro (x0.cell h3) (x0.cell h3')
     have CT:=zho (S:=S) _ _ t.2 u.2 wr.drew (H5.out.ext x0 hS) (H5'.out.ext x0 hS) (z08 hS x0) (HMP.out t HTP.out) (HMQ.out u HUQ.out)
     have CM:=fun (W:World) (hW:Ext w W) => zvy (S:=S) (.agg #[.bool (decide (t.1 < 0)),.slice ad (rep 10 t.1.natAbs).length cd]) (.agg #[.bool (decide (u.1 < 0)),.slice ad' (rep 10 u.1.natAbs).length cd']) t.1 u.1 W ⟨_,rfl,H4.out.ext hW hS⟩ ⟨_,rfl,H4'.out.ext hW hS⟩ (z08 hS hW) (HZP.out.2 t HTP.out) (HZQ.out.2 u HUQ.out)
     obtain ⟨bt,hbt⟩:∃ b,b = decide (t.1 < 0):=⟨_,rfl⟩
     obtain ⟨nt,hnt⟩:∃ n,n = (rep 10 t.1.natAbs).length:=⟨_,rfl⟩
     obtain ⟨bu,hbu⟩:∃ b,b = decide (u.1 < 0):=⟨_,rfl⟩
     obtain ⟨nu,hnu⟩:∃ n,n = (rep 10 u.1.natAbs).length:=⟨_,rfl⟩
     obtain ⟨mt,hmt⟩:∃ n,n = t.2.length:=⟨_,rfl⟩
     obtain ⟨mu,hmu⟩:∃ n,n = u.2.length:=⟨_,rfl⟩
     rw [← hbt,← hnt,← hbu,← hnu] at CM
     rw [← hmt,← hmu] at S0 CT
     rw [← hbt] at h1
     rw [← hnt] at h2
     rw [← hbu] at h1'
     rw [← hnu] at h2'
     have HC0:Hid (_ ∧ _ ∧ _ ∧ _):=hid (And.intro h1 (And.intro h2 (And.intro h1' h2')))
     have HCM:=hid CM
     have HSO:=hid (zw4 HSZ.out HTP.out HUQ.out)
     have HSX:=hid (znl HF.out HSZ.out)
     have HMX:Hid (z0k (z1t xs)):=hid (z8s (fun y hy => (z7m HF.out hy).1)).may
     clear hu h1 h2 h3 h4 h5 h1' h2' h3' h4' h5' hx x0 CM hbt hnt hbu hnu hmt hmu
     cases hr:z50 t.2 u.2 with
     | none =>
      have HRN:Hid (R = none):=hid (HR.out.trans (zbo HF.out (by rw [HGET.out]; unfold z9m; rw [hr]; rfl)))
      rw [hr] at CT
      unfold zvr zvs at CT
      simp only at CT
      have HCT:=hid CT
      clear CT hr
      go_wp2
      go_region_held3 (fun W => W.cell? ⟨b,off + k * 3 + 2,none⟩ = some (.slice ao mt co) ∧ W.cell? ⟨b',off' + j * 3 + 2,none⟩ = some (.slice ao' mu co')) (first | exact S0 | exact S1)
       (first
        | (go_at_call 68; (with_reducible refine HCT.out.mono ?_); rintro e w1 ⟨v1,rfl,hp1,hx1⟩; have S1:_ ∧ _:=And.intro (hx1.cell S0.1) (hx1.cell S0.2); have HX1:=hid (HX0.out.trans hx1); clear hx1 hp1))
      go_wp2
      all_goals
       go_ret2
       rw [HRN.out]
       exact ⟨_,rfl,RTs.nilv _ _ _ _ (by omega),HX1.out⟩
     | some m =>
      have HMM:=hid (zd8 hr)
      have HNX:=hid (zbn HF.out (x:=(t.1 * u.1,m)) (by rw [HGET.out]; unfold z9m; rw [hr]; rfl))
      rw [hr] at CT
      unfold zvr zvs at CT
      simp only at CT
      have HCT:=hid CT
      clear CT hr
      go_wp2
      go_region_held3 (fun W => W.cell? ⟨b,off + k * 3 + 2,none⟩ = some (.slice ao mt co) ∧ W.cell? ⟨b',off' + j * 3 + 2,none⟩ = some (.slice ao' mu co')) (first | exact S0 | exact S1)
       (first
        | (go_at_call 68; (with_reducible refine HCT.out.mono ?_); rintro e w1 ⟨v1,rfl,hp1,hx1⟩; have S1:_ ∧ _:=And.intro (hx1.cell S0.1) (hx1.cell S0.2); have HX1:=hid (HX0.out.trans hx1); have HXR1:=hid (HXR.out.trans hx1); have HP1:Hid (Pows (Plus S w w1) w1 v1 m):=hid (hp1.to (Kept.refl _ _) (ziw HX0.out.size)); clear hx1 hp1))
      have x1:Ext w w1.drew:=HX1.out.drew
      have HX1D:=hid x1
      have T0:_ ∧ _ ∧ _ ∧ _:=And.intro (x1.cell HC0.out.1) (And.intro (x1.cell HC0.out.2.1) (And.intro (x1.cell HC0.out.2.2.1) (x1.cell HC0.out.2.2.2)))
      have HCM1:=hid (HCM.out w1.drew x1)
      clear x1 S0 S1
      go_wp2
      go_region_held3 (fun W => W.cell? ⟨b,off + k * 3,none⟩ = some (.bool bt) ∧ W.cell? ⟨b,off + k * 3 + 1,none⟩ = some (.slice ad nt cd) ∧ W.cell? ⟨b',off' + j * 3,none⟩ = some (.bool bu) ∧ W.cell? ⟨b',off' + j * 3 + 1,none⟩ = some (.slice ad' nu cd')) (first | exact T0 | exact T1 | exact T2)
       (first
        | (go_at_call 69; (with_reducible refine HCM1.out.mono ?_); rintro e w2 ⟨v2,rfl,hz2,hx2⟩; have T1:_ ∧ _ ∧ _ ∧ _:=And.intro (hx2.cell T0.1) (And.intro (hx2.cell T0.2.1) (And.intro (hx2.cell T0.2.2.1) (hx2.cell T0.2.2.2))); have HX2:Hid (Ext w w2):=hid (HX1D.out.trans hx2); have HX12:Hid (Ext w1 w2):=hid (((Ext.refl w1).drew).trans hx2); have C2:=hid (zbg (S:=Plus S w w2) _ _ _ (z1t xs) (t.1 * u.1) m w2 (z2s hS HX2.out) (RTs.later hS HO.out HX.out (HXR1.out.trans HX12.out)) (hz2.to (Kept.refl _ _) (ziw HX1D.out.size)) (HP1.out.to (Kept.ext HX12.out (z2s hS HX1.out)) (z5z HX12.out.size)) HMX.out HMM.out HSX.out HSO.out); clear hx2 hz2)
        | (go_at_call 34; (with_reducible refine C2.out.mono ?_); rintro e w3 ⟨v3,rfl,hp3,hx3⟩; have T2:_ ∧ _ ∧ _ ∧ _:=And.intro (hx3.cell T1.1) (And.intro (hx3.cell T1.2.1) (And.intro (hx3.cell T1.2.2.1) (hx3.cell T1.2.2.2))); have HX3:=hid (HX2.out.trans hx3); have HP3:=hid (hp3.to (Kept.refl _ _) (zbh HX2.out hx3)); clear hx3 hp3))
      go_wp2
      go_roundw
      case rel => exact ⟨j + 1,xs ++ [(t.1 * u.1,m)],n + 1,by omega,by go_num,HX3.out,hid (by rw [HN.out,Nat.add_assoc]),HNX,hid (by unfold z1t; rw [zfs]; exact HP3.out)⟩
      case measure => simp only [intOf]; omega
    ·obtain rfl:j = q.length:=by omega
     clear hx
     go_wp2
     go_roundw
     case rel => exact ⟨k + 1,xs,n,by omega,by go_num,HX.out,hid (by rw [HN.out,Nat.add_mul,Nat.one_mul]),HF,HO⟩
     case measure => simp only [intOf]; omega
  ·obtain rfl:k = p.length:=by omega
   have HRS:=hid (HR.out.trans (zda HF.out HN.out))
   clear hx
   go_wp2
   all_goals
    go_ret2
    rw [HRS.out]
    exact ⟨_,rfl,HO.out,HX.out⟩
end
section
open Go.RowKit
theorem z1r.form {S:Nat → Prop} {w:World} {v:Value} {zs:List (List RTerm)} (h:z1r S w v zs):∃ a cap,v = .slice a zs.length cap:=by
 obtain ⟨b,off,⟨a,cap,h1,_⟩,_⟩:=h
 exact ⟨a,cap,h1⟩
theorem z1r.ext {S:Nat → Prop} {w W:World} {v:Value} {zs:List (List RTerm)} (h:z1r S w v zs) (hx:Ext w W) (hS:∀ k,S k → k < w.heap.size):z1r S W v zs:=h.to (Kept.ext hx hS) (fun _ h => h)
theorem z1r.len_le {S:Nat → Prop} {w:World} {v:Value} {zs:List (List RTerm)} (h:z1r S w v zs):zs.length ≤ 9223372036854775807:=by
 obtain ⟨b,off,⟨a,cap,h1,h2,h3,_⟩,_⟩:=h
 unfold maxLen at h3
 omega
theorem z1r.cellAt {S:Nat → Prop} {w:World} {ts:List (List RTerm)} {a:Option Addr} {n cap k:Nat} {t:List RTerm} (h:z1r S w (.slice a n cap) ts) (ht:ts[k]? = some t) :
  ∃ b off vp,a = some ⟨b,off,none⟩ ∧ n = ts.length ∧ n ≤ cap ∧ cap ≤ 9223372036854775807 ∧ S b ∧ w.cell? ⟨b,off + k,none⟩ = some vp ∧ z06 S w vp t:=by
 obtain ⟨b,off,⟨a',cap',h1,h2,h3,h4,h5⟩,hc⟩:=h
 obtain ⟨rfl,rfl,rfl⟩:a = a' ∧ n = ts.length ∧ cap = cap':=by simpa using h1
 have hp:0 < ts.length:=by have:=z05 ht; omega
 obtain ⟨vp,g1,g2⟩:=hc k t ht
 exact ⟨b,off,vp,h4 hp,rfl,h2,h3,h5 hp,g1,g2⟩
def z70 (l:List (List RTerm)):Prop:=∀ p ∈ l,z3r p
end
section
open Go.RowKit
theorem zfz {S:Nat → Prop} (vp vq:Value) (p q:PZ) (w:World) (hS:∀ k,S k → k < w.heap.size) (hp:RTs S w vp p) (hq:RTs S w vq q) (hmp:z0k p) (hmq:z0k q) (hszp:szP p) (hszq:szP q) (hsz:szM p q) :
  Calls Tryz.prog 13 #[vp,vq] w fun e w' => ∃ v',e = .returned v' ∧ RTs (Plus S w w') w' v' (zj0 (z0g p q)) ∧ Ext w w':=by
 have HT:=hid (zht vp vq p q w hS hp hq hmp hmq hszp hszq hsz)
 clear hp hq
 go_enter Tryz.func13,Tryz.ntmps13
 go_wp2_with fail
 refine HT.out.mono ?_
 rintro e w1 ⟨v1,rfl,hp1,hx1⟩
 have HX1:=hid hx1
 have HP1:=hid hp1
 clear hx1 hp1
 go_wp2
 all_goals
  go_ret
  exact ⟨_,rfl,HP1.out,HX1.out⟩
theorem z7n {p:PZ} (h:canP p):z0q (ofP p) = p:=by
 unfold z0q
 rw [if_pos (z7e h)]
 exact z6t p
theorem RTs.old {w:World} {S:Nat → Prop} {v:Value} {p:PZ} (h:RTs S w v p) (hS:∀ k,S k → k < w.heap.size):RTs (Old w) w v p:=h.to (Kept.refl _ _) hS
theorem z06.old {w:World} {S:Nat → Prop} {v:Value} {p:List RTerm} (h:z06 S w v p) (hS:∀ k,S k → k < w.heap.size):z06 (Old w) w v p:=h.to (Kept.refl _ _) hS
theorem z1r.on {w W:World} {v:Value} {z:List (List RTerm)} (h:z1r (Old w) w v z) (hx:Ext w W):z1r (Old W) W v z:=h.to (Kept.ext hx (fun _ h => h)) (zbe hx)
theorem z06.on {w W:World} {v:Value} {z:List RTerm} (h:z06 (Old w) w v z) (hx:Ext w W):z06 (Old W) W v z:=h.to (Kept.ext hx (fun _ h => h)) (zbe hx)
theorem zj1 {p:PZ} (h:z0k p):∀ t ∈ p,t.2.length ≤ 1000000:=fun t ht => Nat.le_trans (z4g (h t ht)) (by omega)
end
section
open Go.RowKit
theorem zw5 {S:Nat → Prop} (vd:Value) (x:Int) (w:World) (hd:Digs S w vd (rep 10 x.natAbs)) :
  Calls Tryz.prog 67 #[.agg #[.bool (decide (x < 0)),vd]] w fun e w' => e = .returned (.agg #[.bool (decide (-x < 0)),vd]) ∧ Ext w w':=by
 obtain ⟨a,c,rfl⟩:=hd.form
 have hlen:=z5y x.natAbs
 obtain ⟨n,hn⟩:∃ n,n = (rep 10 x.natAbs).length:=⟨_,rfl⟩
 rw [← hn] at hlen ⊢
 have hl:=hd.len_le
 rw [← hn] at hl
 have hpos:decide (0 < n) = decide (x ≠ 0):=by rw [hlen,decide_eq_decide]; omega
 have HPOS:=hid hpos
 clear hd hn hlen hpos
 rcases (show x < 0 ∨ x = 0 ∨ 0 < x by omega) with hx | hx | hx
 ·have e1:decide (x < 0) = true:=decide_eq_true hx
  have E2:Hid (decide (-x < 0) = false):=hid (decide_eq_false (by omega))
  rw [e1]
  clear hx e1 hl
  go_enter Tryz.func67,Tryz.ntmps67
  go_wp2
  all_goals
   refine bodyPost_ret (by simp [results,Tryz.results67,go_sem]; rfl) rfl ?_
   exact ⟨by rw [E2.out],Ext.alloc (Ext.alloc (Ext.refl w) _) _⟩
 ·subst hx
  have hn0:n = 0:=by have:=HPOS.out; simpa using this
  subst hn0
  have e1:decide ((0:Int) < 0) = false:=by decide
  have E2:Hid (decide (-(0:Int) < 0) = false):=hid (by decide)
  rw [e1]
  clear e1 hl
  go_enter Tryz.func67,Tryz.ntmps67
  go_wp2
  all_goals
   refine bodyPost_ret (by simp [results,Tryz.results67,go_sem]; rfl) rfl ?_
   exact ⟨by rw [E2.out],Ext.alloc (Ext.alloc (Ext.refl w) _) _⟩
 ·have e1:decide (x < 0) = false:=decide_eq_false (by omega)
  have E2:Hid (decide (-x < 0) = true):=hid (decide_eq_true (by omega))
  have hn0:0 < n:=by
   have:=HPOS.out
   rw [decide_eq_decide] at this
   exact this.2 (by omega)
  rw [e1]
  clear hx e1
  go_enter Tryz.func67,Tryz.ntmps67
  go_wp2
  all_goals
   refine bodyPost_ret (by simp [results,Tryz.results67,go_sem]; rfl) rfl ?_
   exact ⟨by rw [E2.out],Ext.alloc (Ext.alloc (Ext.refl w) _) _⟩
def negP (p:PZ):PZ:=p.map fun t => (-t.1,t.2)
theorem zw6 {p:PZ} {k:Nat} {t:Int × Mono} (h:p[k]? = some t):negP (p.take (k + 1)) = negP (p.take k) ++ [(-t.1,t.2)]:=by
 rw [List.take_add_one,h]
 unfold negP
 rw [List.map_append]
 rfl
theorem z3t (p:PZ):(negP p).length = p.length:=by unfold negP; rw [List.length_map]
theorem zrz {p:PZ} (h:z0k p):z0k (negP p):=fun t ht => by
 obtain ⟨u,hu,rfl⟩:=List.mem_map.1 ht
 exact h u hu
theorem zw7 {x:Int} (h:szZ x):szZ (-x):=by unfold szZ; rw [Int.natAbs_neg]; exact h
theorem zw8 {p:PZ} (h:szP p):szP (negP p):=⟨by rw [z3t]; exact h.1,fun t ht => by
 obtain ⟨u,hu,rfl⟩:=List.mem_map.1 ht
 exact zw7 (h.2 u hu)⟩
theorem znm {S:Nat → Prop} (v:Value) (p:PZ) (w:World) (h:RTs S w v p) (hS:∀ k,S k → k < w.heap.size) (hsz:szP p) :
  Calls Tryz.prog 32 #[v] w fun e w' => ∃ v',e = .returned v' ∧ RTs (Plus S w w') w' v' (negP p) ∧ Ext w w':=by
 obtain ⟨j0,hj,jz0,jz1,jz2⟩:=info_parts Tryz.infoT
 have hl:=h.len_le
 have H:=hid h
 have HSZ:=hid hsz
 obtain ⟨a,cap,rfl⟩:=h.form
 clear h hsz
 go_enter Tryz.func32,Tryz.ntmps32
 go_wp2
 go_loopw [3,4] (fun o i wr => ∃ k xs,k ≤ p.length ∧ i = .int .i64 (k:Nat) ∧ Ext w wr ∧ Hid (wr.ownsRow w.heap.size 105 3 o k xs) ∧ Hid (z1q S w xs (negP (p.take k)))) (fun _ i _ => p.length - (intOf i).toNat)
 case atStart => exact ⟨0,[],Nat.zero_le _,rfl,Ext.refl _,hid (World.ownsRow_nil _ _ _ _),hid rfl⟩
 case round =>
  obtain ⟨k,xs,hk,rfl,hx,HW,HXS⟩:=hrel
  have HX:=hid hx
  by_cases hlt:k < p.length
  ·obtain ⟨t,ht⟩:=z01 hlt
   obtain ⟨b,off,vd,vo,rfl,-,hn1,hm1,hSb,h1,h2,h3,h4,h5⟩:=H.out.cellAt ht
   have HT:=hid (zw6 ht)
   have H4:=hid h4
   have H5:=hid h5
   obtain ⟨ad,cd,rfl⟩:=h4.form
   obtain ⟨ao,co,rfl⟩:=h5.form
   have x0:Ext w wr.drew:=hx.drew
   have HX0:=hid x0
   have h0:_ ∧ _ ∧ _:=And.intro h1 (And.intro h2 h3)
   have c1:=fun (W:World) (hW:Ext w W) => zw5 (S:=S) (.slice ad (rep 10 t.1.natAbs).length cd) t.1 W (H4.out.ext hW hS)
   obtain ⟨bt,hbt⟩:∃ b,b = decide (t.1 < 0):=⟨_,rfl⟩
   obtain ⟨bn,hbn⟩:∃ b,b = decide (-t.1 < 0):=⟨_,rfl⟩
   obtain ⟨nt,hnt⟩:∃ n,n = (rep 10 t.1.natAbs).length:=⟨_,rfl⟩
   obtain ⟨nm,hnm⟩:∃ n,n = t.2.length:=⟨_,rfl⟩
   have HBN:=hid hbn
   rw [← hbt,← hnt,← hnm] at h0
   rw [← hbt,← hnt,← hbn] at c1
   rw [← hnm] at H5
   rw [← hnt] at H4
   have S0:_ ∧ _ ∧ _:=And.intro (x0.cell h0.1) (And.intro (x0.cell h0.2.1) (x0.cell h0.2.2))
   have C1:=hid (c1 wr.drew x0)
   have HB3:Hid (k + 1 ≤ maxLen):=hid (by have:=HSZ.out.1; unfold maxLen; omega)
   have HB4:Hid ((k + 1) * 56 ≤ 140737488355328):=hid (by have:=HSZ.out.1; omega)
   have HWR:=hid (z0z HW.out ((Ext.refl wr).drew))
   have HC0:=hid h0
   clear ht h0 h1 h2 h3 h4 h5 hx x0 c1 hbt hnt hnm hbn
   go_wp2
   go_region_held3 (fun W => W.cell? ⟨b,off + k * 3,none⟩ = some (.bool bt) ∧ W.cell? ⟨b,off + k * 3 + 1,none⟩ = some (.slice ad nt cd) ∧ W.cell? ⟨b,off + k * 3 + 2,none⟩ = some (.slice ao nm co)) (first | exact S0 | exact S1 | exact ⟨cell_old _ S1.1,cell_old _ S1.2.1,cell_old _ S1.2.2⟩ | exact S5)
    (first
     | (go_at_call 67; (with_reducible refine C1.out.mono ?_); rintro e w1 ⟨rfl,hx1⟩; have HX1:=hid (HX0.out.trans hx1); have S1:_ ∧ _ ∧ _:=And.intro (hx1.cell S0.1) (And.intro (hx1.cell S0.2.1) (hx1.cell S0.2.2)); have HW3:=hid (z0z (z0z HWR.out hx1) (Ext.alloc (Ext.refl w1) (.cells #[.bool bn,.slice ad nt cd,.slice ao nm co] 105))); have HSRC3:=hid (zbj w1 #[.bool bn,.slice ad nt cd,.slice ao nm co] 105 (z2f rfl rfl rfl) (size:=3) rfl); have HB5:=hid (HX1.out.alloc (.cells #[.bool bn,.slice ad nt cd,.slice ao nm co] 105)).size; clear hx1)
     | (refine z2g rfl (.tmp 11) (.tmp 24) 54 rfl w.heap.size 105 j0 (.agg #[.bool false,.slice none 0 0,.slice none 0 0]) 3 56 Tryz.underlying54 hj jz0 jz1 jz2 rfl (Nat.succ_pos _) _ k xs rfl HW3.out (some ⟨w1.heap.size,0,none⟩) 1 1 _ rfl HSRC3.out HB3.out HB4.out HB5.out ?_; intro v5 w5 hown hg hbk; have HW5:=hid hown; have HX5:=hid (z2r (HX1.out.alloc (.cells #[.bool bn,.slice ad nt cd,.slice ao nm co] 105)) HW3.out hg); have S5:_ ∧ _ ∧ _:=And.intro (HX5.out.cell HC0.out.1) (And.intro (HX5.out.cell HC0.out.2.1) (HX5.out.cell HC0.out.2.2)); clear hown hg hbk))
   all_goals
    go_wp2
    go_roundw
    case rel =>
     refine ⟨k + 1,xs ++ (#[.bool bn,.slice ad nt cd,.slice ao nm co]:Array Value).toList,by omega,by go_num,HX5.out,HW5,hid ?_⟩
     rw [HT.out]
     have hone:z1q S w (#[.bool bn,.slice ad nt cd,.slice ao nm co]:Array Value).toList [(-t.1,t.2)]:=by
      rw [HBN.out]
      exact z1q.single (t:=(-t.1,t.2)) (by rw [Int.natAbs_neg]; exact H4.out) H5.out
     exact HXS.out.append hone
    case measure => simp only [intOf]; omega
  ·obtain rfl:k = p.length:=by omega
   have HE:Hid (p.take p.length = p):=hid List.take_length
   clear hx
   go_wp2
   all_goals
    go_ret
    refine ⟨_,rfl,?_,HX.out⟩
    have hc:=HXS.out
    rw [HE.out] at hc
    exact zna (by rw [z3t]; exact HW.out) (hc.to (Kept.ext HX.out hS) (fun _ h => .inl h)) (fun k h1 h2 => .inr ⟨h1,h2⟩)
theorem zg0 {S:Nat → Prop} (vp vq:Value) (p q:PZ) (w:World) (hS:∀ k,S k → k < w.heap.size) (hp:RTs S w vp p) (hq:RTs S w vq q) (hmp:z0k p) (hmq:z0k q) (hszq:szP q) (hsz:∀ k,k ≤ q.length → szP (addP p ((negP q).take k))) :
  Calls Tryz.prog 12 #[vp,vq] w fun e w' => ∃ v',e = .returned v' ∧ RTs (Plus S w w') w' v' (addP p (negP q)) ∧ Ext w w':=by
 have C1:=hid (znm vq q w hq hS hszq)
 have C2:=hid (fun (v1:Value) (w1:World) (hx1:Ext w w1) (h1:RTs (Plus S w w1) w1 v1 (negP q)) => zne (S:=Plus S w w1) vp v1 p (negP q) w1 (z2s hS hx1) ((hp.ext hx1 hS).to (Kept.refl _ _) (fun _ h => .inl h)) h1 hmp (zrz hmq) (zw8 hszq) (fun k hk => hsz k (by rw [z3t] at hk; exact hk)))
 clear hp hq hmp hmq hszq hsz
 go_enter Tryz.func12,Tryz.ntmps12
 go_wp2_with fail
 refine C1.out.mono ?_
 rintro e w1 ⟨v1,rfl,hp1,hx1⟩
 have HX1:=hid hx1
 have HP1:=hid hp1
 have C3:=hid (C2.out v1 w1 hx1 hp1)
 clear hx1 hp1 C2
 go_wp2_with fail
 refine C3.out.mono ?_
 rintro e w2 ⟨v2,rfl,hp2,hx2⟩
 have HX2:=hid (HX1.out.trans hx2)
 have HP2:=hid (hp2.to (Kept.refl _ _) (zbh HX1.out hx2))
 clear hx2 hp2
 go_wp2
 all_goals
  go_ret
  exact ⟨_,rfl,HP2.out,HX2.out⟩
end
section
theorem z27 (m:Mono) (v u:Int):ex (z0r m v) u = if u = v then 0 else ex m u:=by
 unfold z0r
 induction m with
 | nil => simp [ex]
 | cons x r ih =>
  by_cases hx:x.1 = v
  ·rw [List.filter_cons_of_neg (by simpa using hx),ih]
   by_cases hu:u = v
   ·rw [if_pos hu,if_pos hu]
   ·rw [if_neg hu,if_neg hu,ex,if_neg (by omega)]
  ·rw [List.filter_cons_of_pos (by simpa using hx)]
   simp only [ex,ih]
   by_cases hu:u = v
   ·subst hu; simp [hx]
   ·simp [hu]
theorem z84 {l k:Int} {m:Mono} (h:z0a l m = true) (hk:k ≤ l):z0a k m = true:=by
 cases m with
 | nil => rfl
 | cons x r =>
  simp only [z0a,Bool.and_eq_true,decide_eq_true_eq] at h ⊢
  exact ⟨by omega,h.2⟩
theorem zbp {l:Int} {m:Mono} (h:z0a l m = true) (v:Int):z0a l (z0r m v) = true:=by
 unfold z0r
 induction m generalizing l with
 | nil => rfl
 | cons x r ih =>
  simp only [z0a,Bool.and_eq_true,decide_eq_true_eq] at h
  by_cases hx:x.1 = v
  ·rw [List.filter_cons_of_neg (by simpa using hx)]
   exact z84 (ih h.2) (by omega)
  ·rw [List.filter_cons_of_pos (by simpa using hx)]
   simp only [z0a,Bool.and_eq_true,decide_eq_true_eq]
   exact ⟨by omega,ih h.2⟩
theorem z2y {m:Mono} (h:mayM m = true) (v:Int):mayM (z0r m v) = true:=zbp h v
theorem z51 {m:Mono} (h:mayM m = true) (v:Int):0 ≤ ex m v:=(z2t h v).1
theorem zg1 {a b:Mono} (ha:mayM a = true) (hb:mayM b = true) (h:∀ v,ex a v = ex b v):a = b:=zb2 ha hb h
theorem zs0 {f g:Int → Int} {n:Nat}:cmpE f g n = 1 ↔ ∃ k:Nat,1 ≤ k ∧ k ≤ n ∧ g (k:Nat) < f (k:Nat) ∧ ∀ j:Nat,k < j → j ≤ n → f (j:Nat) = g (j:Nat):=by
 induction n with
 | zero =>
  simp only [cmpE]
  constructor
  ·intro h; omega
  ·rintro ⟨k,h1,h2,-⟩; omega
 | succ n ih =>
  simp only [cmpE]
  by_cases h:f ((n + 1:Nat):Int) = g ((n + 1:Nat):Int)
  ·rw [if_pos h,ih]
   constructor
   ·rintro ⟨k,h1,h2,h3,h4⟩
    refine ⟨k,h1,by omega,h3,fun j h5 h6 => ?_⟩
    by_cases hj:j = n + 1
    ·subst hj; exact h
    ·exact h4 j h5 (by omega)
   ·rintro ⟨k,h1,h2,h3,h4⟩
    by_cases hk:k = n + 1
    ·subst hk; omega
    ·exact ⟨k,h1,by omega,h3,fun j h5 h6 => h4 j h5 (by omega)⟩
  ·rw [if_neg h,z3y]
   constructor
   ·intro h1
    exact ⟨n + 1,by omega,Nat.le_refl _,h1,fun j h5 h6 => by omega⟩
   ·rintro ⟨k,h1,h2,h3,h4⟩
    by_cases hk:k = n + 1
    ·subst hk; exact h3
    ·exact absurd (h4 (n + 1) (by omega) (Nat.le_refl _)) h
theorem z48 {a b:Mono} (ha:mayM a = true) (hb:mayM b = true):z0e a b = 1 ↔ ∃ u:Int,ex b u < ex a u ∧ ∀ j,u < j → ex a j = ex b j:=by
 rw [z2a ha hb,zs0]
 constructor
 ·rintro ⟨k,h1,h2,h3,h4⟩
  refine ⟨(k:Int),h3,fun j hj => ?_⟩
  by_cases h200:200 < j
  ·rw [z59 ha h200,z59 hb h200]
  ·have:=h4 j.toNat (by omega) (by omega)
   rwa [Int.toNat_of_nonneg (by omega)] at this
 ·rintro ⟨u,h1,h2⟩
  have hu1:¬ u ≤ 0:=fun h => by rw [z0v ha h,z0v hb h] at h1; omega
  have hu2:¬ 200 < u:=fun h => by rw [z59 ha h,z59 hb h] at h1; omega
  refine ⟨u.toNat,by omega,by omega,?_,fun j h5 h6 => h2 _ (by omega)⟩
  rw [Int.toNat_of_nonneg (by omega)]
  exact h1
theorem zcv {p:PZ} (h:canP p) (f:Int × Mono → Option (Int × Mono)) (h1:∀ t ∈ p,∀ u,f t = some u → u.1 ≠ 0 ∧ mayM u.2 = true)
  (h2:∀ t ∈ p,∀ t' ∈ p,z0e t.2 t'.2 = 1 → ∀ u,f t = some u → ∀ u',f t' = some u' → z0e u.2 u'.2 = 1):canP (p.filterMap f):=by
 refine ⟨fun u hu => ?_,?_⟩
 ·obtain ⟨t,ht,e⟩:=List.mem_filterMap.1 hu
  exact h1 t ht u e
 ·have h3:p.Pairwise (fun a b => a ∈ p ∧ b ∈ p ∧ z0e a.2 b.2 = 1):=by
   refine List.Pairwise.imp_of_mem ?_ h.2
   intro a b ha hb hc
   exact ⟨ha,hb,hc⟩
  exact h3.filterMap f (fun a a' g b hb b' hb' => h2 a g.1 a' g.2.1 g.2.2 b hb b' hb')
theorem zg2 {a b:Mono} (ha:mayM a = true) (hb:mayM b = true) {v:Int} (he:ex a v = ex b v) (h:z0e a b = 1):z0e (z0r a v) (z0r b v) = 1:=by
 obtain ⟨u,h1,h2⟩:=(z48 ha hb).1 h
 refine (z48 (z2y ha v) (z2y hb v)).2 ⟨u,?_,fun j hj => ?_⟩
 ·rw [z27,z27]
  by_cases hu:u = v
  ·subst hu; omega
  ·rw [if_neg hu,if_neg hu]; exact h1
 ·rw [z27,z27,h2 j hj]
def zbq (v e:Int) (t:Int × Mono):Option (Int × Mono):=if ex t.2 v = e then some (t.1,z0r t.2 v) else none
def z3b (p:PZ) (v e:Int):PZ:=p.filterMap (zbq v e)
def z1w (p:PZ):PZ:=if z0t p = 0 then p else z3b p (z0t p) (degP p (z0t p))
theorem z2h {p:PZ} (h:canP p) (v e:Int):canP (z3b p v e):=by
 refine zcv h _ (fun t ht u hu => ?_) (fun t ht t' ht' hc u hu u' hu' => ?_)
 ·unfold zbq at hu
  split at hu
  ·cases hu; exact ⟨(h.1 t ht).1,z2y (h.1 t ht).2 v⟩
  ·cases hu
 ·unfold zbq at hu hu'
  split at hu
  ·split at hu'
   ·rename_i e1 e2
    cases hu; cases hu'
    exact zg2 (h.1 t ht).2 (h.1 t' ht').2 (by omega) hc
   ·cases hu'
  ·cases hu
theorem znn {p:PZ} (h:canP p):canP (z1w p):=by
 unfold z1w
 split
 ·exact h
 ·exact z2h h _ _
theorem zbr {p:PZ} {v d:Int} (hd:0 ≤ d) (h:∀ t ∈ p,ex t.2 v ≤ d):degP p v ≤ d:=za0 _ _ _ _ hd h
theorem zno {p:PZ} {v d:Int} (hd:0 < d) (h:∀ t ∈ p,ex t.2 v < d):degP p v < d:=by
 have:=zbr (p:=p) (v:=v) (d:=d - 1) (by omega) (fun t ht => by have:=h t ht; omega)
 omega
theorem zg3 {p:PZ} {v:Int} (h:∀ t ∈ p,ex t.2 v = 0):degP p v = 0:=Int.le_antisymm (zbr (Int.le_refl _) (fun t ht => by rw [h t ht]; exact Int.le_refl _)) (z6s _ _ _)
theorem zs1 {p:PZ} {v:Int} (h:0 < degP p v):∃ t ∈ p,ex t.2 v = degP p v:=by
 by_cases hx:∃ t ∈ p,ex t.2 v = degP p v
 ·exact hx
 ·have:degP p v < degP p v:=zno h (fun t ht => by
   have h1:=z1u ht v
   rcases Int.lt_or_le (ex t.2 v) (degP p v) with g | g
   ·exact g
   ·exact absurd ⟨t,ht,Int.le_antisymm h1 g⟩ hx)
  omega
theorem za7 {p:PZ} (h:canP p) (hl:0 < z0t p):0 < degP p (z0t p):=by
 cases p with
 | nil => simp [z0t] at hl
 | cons t r =>
  have hl':0 < z1j t.2:=hl
  have h1:t.2 ≠ []:=fun e => by rw [e] at hl'; simp [z1j] at hl'
  have h2:=(z5b (h.1 t (by simp)).2 h1).2.2
  have h3:=z1u (p:=t :: r) (t:=t) (by simp) (z1j t.2)
  show 0 < degP (t :: r) (z1j t.2)
  omega
theorem z8u {p:PZ} {v e:Int} {u:Int × Mono} (h:u ∈ z3b p v e):∃ t ∈ p,ex t.2 v = e ∧ u = (t.1,z0r t.2 v):=by
 obtain ⟨t,ht,e1⟩:=List.mem_filterMap.1 h
 unfold zbq at e1
 split at e1
 ·rename_i h1
  cases e1; exact ⟨t,ht,h1,rfl⟩
 ·cases e1
theorem z8v {p:PZ} {v e:Int} {u:Int × Mono} (h:u ∈ z3b p v e):ex u.2 v = 0:=by
 obtain ⟨t,-,-,rfl⟩:=z8u h
 rw [z27,if_pos rfl]
end
section
def lk:List (Int × Int × Int) → Int → Int × Int
 | [],_ => (0,0)
 | t :: r,v => if t.1 = v then t.2 else lk r v
def ris (last:Int):List (Int × Int × Int) → Prop
 | [] => True
 | t :: r => last < t.1 ∧ t.1 ≤ 200 ∧ ris t.1 r
theorem zy7 {last:Int} {l:List (Int × Int × Int)} (h:ris last l) {u:Int} (hu:u ≤ last):lk l u = (0,0):=by
 induction l generalizing last with
 | nil => rfl
 | cons t r ih =>
  obtain ⟨h1,h2,h3⟩:=h
  rw [lk,if_neg (by omega)]
  exact ih h3 (by omega)
theorem ze6 {last:Int} {a b:Mono} (ha:z0a last a = true) (hb:z0a last b = true):ris last (both a b) ∧ ∀ u,lk (both a b) u = (ex a u,ex b u):=by
 generalize hn:a.length + b.length = n
 induction n using Nat.strongRecOn generalizing a b last with
 | ind n ih =>
 cases a with
 | nil =>
  cases b with
  | nil => rw [z8m]; exact ⟨trivial,fun u => rfl⟩
  | cons y b =>
   have hB:=hb
   simp only [z0a,Bool.and_eq_true,decide_eq_true_eq] at hb
   simp only [List.length_cons,List.length_nil] at hn
   obtain ⟨h1,h2⟩:=ih (0 + b.length) (by omega) (a:=[]) (b:=b) (last:=y.1) rfl hb.2 (by simp)
   rw [z7a]
   refine ⟨⟨hb.1.1,hb.1.2.1,h1⟩,fun u => ?_⟩
   rw [lk,h2,ex]
   simp only [ex]
   split <;> rfl
 | cons x a =>
  cases b with
  | nil =>
   have hA:=ha
   simp only [z0a,Bool.and_eq_true,decide_eq_true_eq] at ha
   simp only [List.length_cons,List.length_nil] at hn
   obtain ⟨h1,h2⟩:=ih (a.length + 0) (by omega) (a:=a) (b:=[]) (last:=x.1) ha.2 rfl (by simp)
   rw [z8n]
   refine ⟨⟨ha.1.1,ha.1.2.1,h1⟩,fun u => ?_⟩
   rw [lk,h2]
   simp only [ex]
   split <;> rfl
  | cons y b =>
   have hA:=ha
   have hB:=hb
   simp only [z0a,Bool.and_eq_true,decide_eq_true_eq] at ha hb
   simp only [List.length_cons] at hn
   rw [z8o]
   split
   ·rename_i hlt
    have hb':z0a x.1 (y :: b) = true:=by simp only [z0a,Bool.and_eq_true,decide_eq_true_eq]; exact ⟨⟨hlt,hb.1.2⟩,hb.2⟩
    obtain ⟨h1,h2⟩:=ih (a.length + (b.length + 1)) (by omega) (a:=a) (b:=y :: b) (last:=x.1) ha.2 hb' (by simp)
    refine ⟨⟨ha.1.1,ha.1.2.1,h1⟩,fun u => ?_⟩
    rw [lk,h2]
    by_cases hu:x.1 = u
    ·rw [if_pos hu,← hu,z0v hb' (Int.le_refl _),ex,if_pos rfl]
    ·rw [if_neg hu]; conv => rhs; rw [ex,if_neg hu]
   ·split
    ·rename_i hnlt hlt
     have ha':z0a y.1 (x :: a) = true:=by simp only [z0a,Bool.and_eq_true,decide_eq_true_eq]; exact ⟨⟨hlt,ha.1.2⟩,ha.2⟩
     obtain ⟨h1,h2⟩:=ih (a.length + 1 + b.length) (by omega) (a:=x :: a) (b:=b) (last:=y.1) ha' hb.2 (by simp)
     refine ⟨⟨hb.1.1,hb.1.2.1,h1⟩,fun u => ?_⟩
     rw [lk,h2]
     by_cases hu:y.1 = u
     ·rw [if_pos hu,← hu,z0v ha' (Int.le_refl _),ex,if_pos rfl]
     ·rw [if_neg hu,show ex (y :: b) u = ex b u by rw [ex,if_neg hu]]
    ·rename_i h3 h4
     have hxy:x.1 = y.1:=by omega
     rw [← hxy] at hb
     obtain ⟨h1,h2⟩:=ih (a.length + b.length) (by omega) (a:=a) (b:=b) (last:=x.1) ha.2 hb.2 (by simp)
     refine ⟨⟨ha.1.1,ha.1.2.1,h1⟩,fun u => ?_⟩
     rw [lk,h2]
     by_cases hu:x.1 = u
     ·rw [if_pos hu,ex,if_pos hu,ex,if_pos (by omega)]
     ·rw [if_neg hu,show ex (y :: b) u = ex b u by rw [ex,if_neg (by omega)],show ex (x :: a) u = ex a u by rw [ex,if_neg hu]]
theorem zj2 {f:Int → Int → Int} (h0:f 0 0 ≤ 0) {last:Int} {l:List (Int × Int × Int)} (h:ris last l) (u:Int):ex (z43 f l) u = if 0 < f (lk l u).1 (lk l u).2 then f (lk l u).1 (lk l u).2 else 0:=by
 induction l generalizing last with
 | nil =>
  rw [z43,ex,lk,if_neg (show ¬ 0 < f 0 0 by omega)]
 | cons t r ih =>
  obtain ⟨h1,h2,h3⟩:=h
  rw [z43,lk]
  by_cases hu:t.1 = u
  ·rw [if_pos hu]
   by_cases hf:0 < f t.2.1 t.2.2
   ·rw [if_pos hf,if_pos hf,ex,if_pos hu]
   ·rw [if_neg hf,if_neg hf,ih h3,zy7 h3 (by omega),if_neg (show ¬ 0 < f 0 0 by omega)]
  ·rw [if_neg hu]
   by_cases hf:0 < f t.2.1 t.2.2
   ·rw [if_pos hf,ex,if_neg hu,ih h3]
   ·rw [if_neg hf,ih h3]
theorem znp {f:Int → Int → Int} {last:Int} {l:List (Int × Int × Int)} (h:ris last l) (hf:∀ t ∈ l,f t.2.1 t.2.2 ≤ 10000):z0a last (z43 f l) = true:=by
 induction l generalizing last with
 | nil => rfl
 | cons t r ih =>
  obtain ⟨h1,h2,h3⟩:=h
  have hr:=ih h3 (fun u hu => hf u (by simp [hu]))
  rw [z43]
  split
  ·rename_i h4
   have:=hf t (by simp)
   simp only [z0a,Bool.and_eq_true,decide_eq_true_eq]
   exact ⟨by omega,hr⟩
  ·exact z84 hr (by omega)
theorem znq {last:Int} {l:List (Int × Int × Int)} (h:ris last l) {t:Int × Int × Int} (ht:t ∈ l):lk l t.1 = t.2:=by
 induction l generalizing last with
 | nil => simp at ht
 | cons x r ih =>
  obtain ⟨h1,h2,h3⟩:=h
  rw [lk]
  rcases List.mem_cons.1 ht with rfl | ht
  ·rw [if_pos rfl]
  ·by_cases e:x.1 = t.1
   ·exfalso
    have:∀ (l:List (Int × Int × Int)) (k:Int),ris k l → ∀ t ∈ l,k < t.1:=by
     intro l
     induction l with
     | nil => intro k _ t ht; simp at ht
     | cons y s ih =>
      intro k hk t ht
      obtain ⟨g1,g2,g3⟩:=hk
      rcases List.mem_cons.1 ht with rfl | ht
      ·exact g1
      ·have:=ih _ g3 t ht; omega
    have:=this r x.1 h3 t ht
    omega
   ·rw [if_neg e]; exact ih h3 ht
theorem zw9 {f:Int → Int → Int} (h0:f 0 0 ≤ 0) {a b:Mono} (ha:mayM a = true) (hb:mayM b = true) (u:Int):ex (z43 f (both a b)) u = if 0 < f (ex a u) (ex b u) then f (ex a u) (ex b u) else 0:=by
 obtain ⟨h1,h2⟩:=ze6 ha hb
 rw [zj2 h0 h1,h2]
theorem zs2 {f:Int → Int → Int} {a b:Mono} (ha:mayM a = true) (hb:mayM b = true) (hf:∀ u,f (ex a u) (ex b u) ≤ 10000):mayM (z43 f (both a b)) = true:=by
 obtain ⟨h1,h2⟩:=ze6 ha hb
 refine znp h1 (fun t ht => ?_)
 have:=znq h1 ht
 rw [h2] at this
 have h3:=hf t.1
 rw [← this]
 exact h3
theorem z2k {a b:Mono} (ha:mayM a = true) (hb:mayM b = true) (u:Int):ex (z0m a b) u = ex a u + ex b u:=by
 unfold z0m
 rw [zw9 (by simp) ha hb]
 have h1:=z51 ha u
 have h2:=z51 hb u
 split <;> omega
theorem z8w {a b:Mono} (ha:mayM a = true) (hb:mayM b = true):mayM (z0m a b) = true ↔ ∀ u,ex a u + ex b u ≤ 10000:=by
 constructor
 ·intro h u
  rw [← z2k ha hb]
  exact (z2t h u).2
 ·intro h
  exact zs2 ha hb h
theorem znr {v e:Int} (hv:1 ≤ v ∧ v ≤ 200) (he:1 ≤ e ∧ e ≤ 10000):mayM [(v,e)] = true:=by
 unfold mayM z0a
 simp only [z0a,Bool.and_true,decide_eq_true_eq]
 omega
theorem zg4 (v e u:Int):ex [(v,e)] u = if v = u then e else 0:=by simp [ex]
end
section
theorem zs3 {m:Mono} {v:Int} (h:∀ x ∈ m,x.1 < v) (e u:Int):ex (m ++ [(v,e)]) u = if u = v then e else ex m u:=by
 induction m with
 | nil =>
  simp only [List.nil_append,ex]
  by_cases hu:v = u
  ·rw [if_pos hu,if_pos hu.symm]
  ·rw [if_neg hu,if_neg (fun k => hu k.symm)]
 | cons x r ih =>
  have h1:=h x (by simp)
  simp only [List.cons_append,ex,ih (fun y hy => h y (by simp [hy]))]
  by_cases hx:x.1 = u
  ·rw [if_pos hx,if_pos hx,if_neg (by omega)]
  ·rw [if_neg hx,if_neg hx]
theorem zy8 (f:Nat → Int) (n:Nat) (u:Nat) (h0:∀ j,0 ≤ f j):ex (ofE f n) (u:Int) = if 1 ≤ u ∧ u ≤ n then f u else 0:=by
 induction n with
 | zero =>
  simp only [ofE,ex]
  rw [if_neg (by omega)]
 | succ n ih =>
  simp only [ofE]
  by_cases hf:0 < f (n + 1)
  ·rw [if_pos hf,zs3 (fun x hx => by have:=ziz f n x hx; omega),ih]
   by_cases hu:u = n + 1
   ·subst hu
    rw [if_pos rfl,if_pos (by omega)]
   ·rw [if_neg (by omega)]
    by_cases h1:1 ≤ u ∧ u ≤ n
    ·rw [if_pos h1,if_pos (by omega)]
    ·rw [if_neg h1,if_neg (by omega)]
  ·rw [if_neg hf,ih]
   have:=h0 (n + 1)
   by_cases hu:u = n + 1
   ·subst hu
    rw [if_neg (by omega),if_pos (by omega)]
    omega
   ·by_cases h1:1 ≤ u ∧ u ≤ n
    ·rw [if_pos h1,if_pos (by omega)]
    ·rw [if_neg h1,if_neg (by omega)]
theorem zg5 {a b:Mono} (ha:mayM a = true) (hb:mayM b = true):z50 a b = if mayM (z0m a b) = true then some (z0m a b) else none:=by
 unfold z50
 have h0:∀ j,0 ≤ sumF a b j:=fun j => by
  have h1:=z51 ha (j:Int)
  have h2:=z51 hb (j:Int)
  unfold sumF
  omega
 cases hov:z69 (sumF a b) 200 with
 | true =>
  rw [if_pos rfl,if_neg]
  intro hm
  have h1:=(z8w ha hb).1 hm
  have h2:∀ n,z69 (sumF a b) n = false:=fun n => by
   induction n with
   | zero => rfl
   | succ n ih =>
    simp only [z69,ih,Bool.false_or,decide_eq_false_iff_not]
    have:=h1 ((n + 1:Nat):Int)
    unfold sumF
    omega
  rw [h2] at hov
  cases hov
 | false =>
  have h1:=zfx hov
  have hm:mayM (z0m a b) = true:=(z8w ha hb).2 (fun u => by
   by_cases h2:u < 1
   ·rw [z0v ha (by omega),z0v hb (by omega)]; omega
   ·by_cases h3:200 < u
    ·rw [z59 ha h3,z59 hb h3]; omega
    ·have:=h1 u.toNat (by omega) (by omega)
     unfold sumF at this
     rwa [Int.toNat_of_nonneg (by omega)] at this)
  rw [if_neg (by simp),if_pos hm]
  refine congrArg some ?_
  refine zio (znj (Nat.le_refl _) (fun j h2 h3 => h1 j h2 h3)) hm (fun k h2 h3 => ?_)
  rw [zy8 _ _ _ h0,if_pos ⟨h2,h3⟩,z2k ha hb]
  rfl
theorem zj3 {t u:Int × Mono} (ht:mayM t.2 = true) (hu:mayM u.2 = true) (h:mayM (z0m t.2 u.2) = true):z9m t u = some (t.1 * u.1,z0m t.2 u.2):=by
 unfold z9m
 rw [zg5 ht hu,if_pos h]
 rfl
theorem zns {t u:Int × Mono} (ht:mayM t.2 = true) (hu:mayM u.2 = true) (h:mayM (z0m t.2 u.2) = false):z9m t u = none:=by
 unfold z9m
 rw [zg5 ht hu,if_neg (by rw [h]; exact Bool.false_ne_true)]
 rfl
end
section
open Go.RowKit
end
section
open Go.RowKit
section
variable {P:Program}
end
end
section
section
variable {α:Type} {le:α → α → Bool}
structure TotalLe (le:α → α → Bool):Prop where
 trans:∀ a b c,le a b = true → le b c = true → le a c = true
 total:∀ a b,le a b = true ∨ le b a = true
theorem TotalLe.not {x y:α} (h:TotalLe le) (hn:le x y = false):le y x = true:=by
 rcases h.total x y with h | h
 ·rw [hn] at h; cases h
 ·exact h
theorem TotalLe.not_of (h:TotalLe le) {x y z:α} (h1:le x y = false) (h2:le x z = true):le z y = false:=by
 cases h3:le z y with
 | false => rfl
 | true =>
  have:=h.trans _ _ _ h2 h3
  rw [h1] at this; cases this
theorem TotalLe.not_of' (h:TotalLe le) {x y z:α} (h1:le x y = false) (h2:le z y = true):le x z = false:=by
 cases h3:le x z with
 | false => rfl
 | true =>
  have:=h.trans _ _ _ h3 h2
  rw [h1] at this; cases this
abbrev z0i (le:α → α → Bool) (xs ys:List α):List α:=List.merge xs ys le
theorem z0j (ys:List α):z0i le [] ys = ys:=List.nil_merge ys
theorem z0b (xs:List α):z0i le xs [] = xs:=List.merge_right xs
theorem z2i {x y:α} (xs ys:List α) (h:le x y = true):z0i le (x :: xs) (y :: ys) = x :: z0i le xs (y :: ys):=List.cons_merge_cons_pos le xs ys h
theorem z20 {x y:α} (xs ys:List α) (h:le x y = false):z0i le (x :: xs) (y :: ys) = y :: z0i le (x :: xs) ys:=by
 unfold z0i
 rw [List.cons_merge_cons,if_neg (by rw [h]; exact Bool.false_ne_true)]
theorem zhu (xs ys:List α):(z0i le xs ys).Perm (xs ++ ys):=List.merge_perm_append le
def z12 (le:α → α → Bool) (l:List α):Prop:=l.Pairwise (fun a b => le a b = true)
theorem ze7 (h:TotalLe le) {xs ys:List α} (hx:z12 le xs) (hy:z12 le ys):z12 le (z0i le xs ys) :=
 List.pairwise_merge (fun a b c => h.trans a b c) (fun a b => by rcases h.total a b with h | h <;> simp [h]) _ _ hx hy
theorem z49 (A1 A2 B1 B2:List α) (h1:∀ x ∈ A1,∀ y ∈ B2,le x y = true) (h2:∀ y ∈ B1,∀ x ∈ A2,le x y = false) :
  z0i le (A1 ++ A2) (B1 ++ B2) = z0i le A1 B1 ++ z0i le A2 B2:=by
 induction A1 generalizing B1 with
 | nil =>
  rw [z0j]
  induction B1 with
  | nil => rfl
  | cons b B1 ih =>
   cases A2 with
   | nil => simp
   | cons x A2 =>
    have:=ih (fun y hy => h2 y (by simp [hy]))
    simp only [List.nil_append,List.cons_append] at this ⊢
    rw [z20 _ _ (h2 b (by simp) x (by simp)),this]
 | cons a A1 ihA =>
  induction B1 with
  | nil =>
   rw [z0b]
   cases B2 with
   | nil => simp
   | cons y B2 =>
    have:=ihA [] (fun x hx => h1 x (by simp [hx])) (fun y hy => by simp at hy)
    rw [z0b] at this
    simp only [List.nil_append,List.cons_append] at this ⊢
    rw [z2i _ _ (h1 a (by simp) y (by simp)),this]
  | cons b B1 ihB =>
   cases hab:le a b with
   | true =>
    have:=ihA (b :: B1) (fun x hx => h1 x (by simp [hx])) h2
    simp only [List.cons_append] at this ⊢
    rw [z2i _ _ hab,z2i _ _ hab,this]
    rfl
   | false =>
    have:=ihB (fun y hy => h2 y (by simp [hy]))
    simp only [List.cons_append] at this ⊢
    rw [z20 _ _ hab,z20 _ _ hab,this]
    rfl
theorem zg6 (h:TotalLe le) (A B C:List α):z0i le (z0i le A B) C = z0i le A (z0i le B C):=by
 generalize hn:A.length + B.length + C.length = n
 induction n using Nat.strongRecOn generalizing A B C with
 | ind n ih =>
  cases A with
  | nil => rw [z0j,z0j]
  | cons a A =>
   cases B with
   | nil => rw [z0j,z0b]
   | cons b B =>
    cases C with
    | nil => rw [z0b,z0b]
    | cons c C =>
     simp only [List.length_cons] at hn
     cases hab:le a b with
     | true =>
      rw [z2i _ _ hab]
      cases hac:le a c with
      | true =>
       rw [z2i _ _ hac,ih _ (by simp only [List.length_cons]; omega) A (b :: B) (c :: C) rfl]
       cases hbc:le b c with
       | true => rw [z2i _ _ hbc,z2i _ _ hab]
       | false => rw [z20 _ _ hbc,z2i _ _ hac]
      | false =>
       have hbc:le b c = false:=h.not_of hac hab
       rw [z20 _ _ hac,z20 _ _ hbc,z20 _ _ hac,← z2i _ _ hab,ih _ (by simp only [List.length_cons]; omega) (a :: A) (b :: B) C rfl]
     | false =>
      rw [z20 _ _ hab]
      cases hbc:le b c with
      | true => rw [z2i _ _ hbc,z2i _ _ hbc,z20 _ _ hab,ih _ (by simp only [List.length_cons]; omega) (a :: A) B (c :: C) rfl]
      | false =>
       have hac:le a c = false:=by
        cases h3:le a c with
        | false => rfl
        | true =>
         have:=h.trans _ _ _ (h.not hab) h3
         rw [hbc] at this; cases this
       rw [z20 _ _ hbc,z20 _ _ hbc,z20 _ _ hac,← z20 _ _ hab,ih _ (by simp only [List.length_cons]; omega) (a :: A) (b :: B) C rfl]
def z2j (le:α → α → Bool):List α → List α
 | [] => []
 | x :: xs => z0i le [x] (z2j le xs)
theorem z5f (h:TotalLe le) (A B:List α):z2j le (A ++ B) = z0i le (z2j le A) (z2j le B):=by
 induction A with
 | nil => exact (z0j _).symm
 | cons a A ih =>
  show z0i le [a] (z2j le (A ++ B)) = z0i le (z0i le [a] (z2j le A)) (z2j le B)
  rw [ih,zg6 h]
theorem zbs (x:α):z2j le [x] = [x]:=z0b [x]
theorem zdb (l:List α):(z2j le l).Perm l:=by
 induction l with
 | nil => exact List.Perm.refl _
 | cons x l ih => exact (zhu [x] _).trans (ih.cons x)
theorem z13 (l:List α):(z2j le l).length = l.length:=(zdb l).length_eq
theorem z3h (h:TotalLe le) (l:List α):z12 le (z2j le l):=by
 induction l with
 | nil => exact List.Pairwise.nil
 | cons x l ih => exact ze7 h (List.pairwise_singleton _ _) ih
theorem z9n {S1 S2:List α} {x:α} (h1:∀ y ∈ S1,le y x = true) (h2:∀ y ∈ S2,le y x = false):z0i le (S1 ++ S2) [x] = S1 ++ x :: S2:=by
 have e:=z49 (le:=le) S1 S2 [x] [] (fun _ _ y hy => by simp at hy) (fun y hy z hz => by rw [List.mem_singleton.1 hy]; exact h2 z hz)
 rw [List.append_nil,z0b] at e
 rw [e]
 have e2:=z49 (le:=le) S1 [] [] [x] (fun y hy z hz => by rw [List.mem_singleton.1 hz]; exact h1 y hy) (fun y hy => by simp at hy)
 rw [List.append_nil,List.nil_append,z0j,z0b] at e2
 rw [e2]
 simp
theorem zhv {S1 S2:List α} {x:α} (h1:∀ y ∈ S1,le x y = false) (h2:∀ y ∈ S2,le x y = true):z0i le [x] (S1 ++ S2) = S1 ++ x :: S2:=by
 have e:=z49 (le:=le) [] [x] S1 S2 (fun y hy => by simp at hy) (fun y hy z hz => by rw [List.mem_singleton.1 hz]; exact h1 y hy)
 rw [List.nil_append,z0j] at e
 rw [e]
 have e2:=z49 (le:=le) [x] [] [] S2 (fun y hy z hz => by rw [List.mem_singleton.1 hy]; exact h2 z hz) (fun y hy => by simp at hy)
 rw [List.append_nil,List.nil_append,z0j,z0b] at e2
 rw [e2]
 rfl
theorem z12.last {A:List α} {x y:α} (h:TotalLe le) (hs:z12 le (A ++ [x])) (hxy:le x y = true):∀ z ∈ A ++ [x],le z y = true:=by
 intro z hz
 obtain ⟨_,_,h3⟩:=List.pairwise_append.1 hs
 rcases List.mem_append.1 hz with hz | hz
 ·exact h.trans _ _ _ (h3 z hz x (by simp)) hxy
 ·rw [List.mem_singleton.1 hz]; exact hxy
end
end
section
open Go.RowKit Go.Sort
theorem zg7 {w W W':World} {row:Option Nat} (h:w.grownBy W row) (hx:Ext W W'):w.grownBy W' row :=
 ⟨hx.os.trans h.os,hx.tape.trans h.tape,hx.output.trans h.output,Nat.le_trans h.size hx.size,fun i hi hne => (hx.block i (Nat.lt_of_lt_of_le hi h.size)).trans (h.block i hi hne)⟩
theorem zl0 (w:World) (row:Option Nat):w.grownBy w row:=⟨rfl,rfl,rfl,Nat.le_refl _,fun _ _ _ => rfl⟩
theorem znt {w W:World} {b o:Nat} (h:w.grownBy W (some b)) (u:Value):w.grownBy (W.setCell ⟨b,o,none⟩ u) (some b) :=
 ⟨h.os,h.tape,h.output,by rw [z07]; exact h.size,fun i hi hne => (Below.heap_setCell _ _ _ _ (fun e => hne (by rw [e]))).trans (h.block i hi hne)⟩
theorem zdc {w:World} {b:Nat} (vs:List Value):∀ (o:Nat) (W:World),w.grownBy W (some b) → w.grownBy (W.setCells b o vs) (some b):=by
 induction vs with
 | nil => exact fun _ _ h => h
 | cons v r ih => exact fun o W h => ih (o + 1) _ (znt h v)
theorem z71 {α:Type} (A B:List α) (x:α):(A ++ x :: B)[A.length]? = some x:=by simp
theorem za8 {α:Type} [Inhabited α] {l:List α} {i:Nat} {x:α} (h:l[i]? = some x):l.toArray[i]! = x:=by simp [h]
theorem zux {α:Type} [Inhabited α] (A M B:List α) (x y:α):swp (A ++ x :: M ++ y :: B).toArray A.length (A.length + 1 + M.length) = (A ++ y :: M ++ x :: B).toArray:=by
 have e0:(A ++ x :: M ++ y :: B)[A.length]? = some x:=by simp
 have e1:(A ++ x :: M ++ y :: B)[A.length + 1 + M.length]? = some y:=by
  rw [List.getElem?_append_right (by simp; omega)]
  simp [show A.length + 1 + M.length - (A.length + (M.length + 1)) = 0 by omega]
 unfold swp
 rw [za8 e0,za8 e1]
 rw [List.setIfInBounds_toArray,List.setIfInBounds_toArray]
 congr 1
 rw [show (A ++ x :: M ++ y :: B).set A.length y = A ++ y :: M ++ y :: B by rw [List.append_assoc,List.set_append_right _ _ (Nat.le_refl _)]; simp]
 rw [List.set_append_right _ _ (by simp; omega)]
 simp [show A.length + 1 + M.length - (A.length + (M.length + 1)) = 0 by omega]
theorem zj4 {α:Type} [Inhabited α] (A M B:List α) (x y:α):swp (A ++ x :: M ++ y :: B).toArray (A.length + 1 + M.length) A.length = (A ++ y :: M ++ x :: B).toArray:=by
 have e0:(A ++ x :: M ++ y :: B)[A.length]? = some x:=by simp
 have e1:(A ++ x :: M ++ y :: B)[A.length + 1 + M.length]? = some y:=by
  rw [List.getElem?_append_right (by simp; omega)]
  simp [show A.length + 1 + M.length - (A.length + (M.length + 1)) = 0 by omega]
 unfold swp
 rw [za8 e0,za8 e1]
 rw [List.setIfInBounds_toArray,List.setIfInBounds_toArray]
 congr 1
 rw [show (A ++ x :: M ++ y :: B).set (A.length + 1 + M.length) x = A ++ x :: M ++ x :: B by
  rw [List.set_append_right _ _ (by simp; omega)]
  simp [show A.length + 1 + M.length - (A.length + (M.length + 1)) = 0 by omega]]
 rw [List.append_assoc,List.set_append_right _ _ (Nat.le_refl _)]
 simp
section
variable {α:Type} [Inhabited α] {enc:α → List Value} {k:Nat}
structure SortAt (enc:α → List Value) (k:Nat) (w:World) (b o:Nat) (d:List α) (W:World):Prop where
 grown:w.grownBy W (some b)
 holds:HoldsK enc k W b o d.toArray
 old:b < w.heap.size
variable {w W W':World} {b o:Nat} {d:List α}
theorem SortAt.later (h:SortAt enc k w b o d W) (hx:Ext W W'):SortAt enc k w b o d W' :=
 ⟨zg7 h.grown hx,fun j hj => by
  have hb:b < W.heap.size:=Nat.lt_of_lt_of_le h.old h.grown.size
  have:=h.holds j hj
  exact ⟨(World.cell?_of_block (w:=W) (hx.block b hb)).trans this.1,(World.frozen?_of_block (w:=W) (hx.block b hb)).trans this.2⟩,h.old⟩
theorem SortAt.drew (h:SortAt enc k w b o d W):SortAt enc k w b o d W.drew:=h.later (Ext.refl W).drew
theorem SortAt.swap (h:SortAt enc k w b o d W) (hk:∀ x,(enc x).length = k) {d':List α} {i j:Nat} (hi:i < d.length) (hj:j < d.length) (hd:swp d.toArray i j = d'.toArray) :
  SortAt enc k w b o d' ((W.setCells b (o + i * k) (enc d.toArray[j]!)).setCells b (o + j * k) (enc d.toArray[i]!)):=by
 refine ⟨zdc _ _ _ (zdc _ _ _ h.grown),?_,h.old⟩
 have e:=putRowK_swp enc k hk W b o d.toArray i j (by simpa using hi) (by simpa using hj)
 rw [putRowK_self enc k W b o d.toArray h.holds,hd] at e
 rw [e]
 exact holdsK_putRowK enc k W b o d.toArray _ h.holds (by rw [← hd]; simp [size_swp])
theorem SortAt.cell (h:SortAt enc k w b o d W) {i c:Nat} {x:α} (hi:d[i]? = some x) (hc:c < k) :
  W.cell? ⟨b,o + i * k + c,none⟩ = some (enc x)[c]! ∧ W.frozen? ⟨b,o + i * k + c,none⟩ = false:=by
 have hl:=z05 hi
 have:=HoldsK.cell h.holds (i:=i) (c:=c) (by simpa using hl) hc
 rw [za8 hi] at this
 exact this
end
structure TCell where
 neg:Bool
 ma:Option Addr
 mn:Nat
 mc:Nat
 oa:Option Addr
 on:Nat
 oc:Nat
abbrev encT {α:Type} (tc:α → TCell) (x:α):List Value:=[.bool (tc x).neg,(.slice (tc x).ma (tc x).mn (tc x).mc),(.slice (tc x).oa (tc x).on (tc x).oc)]
section
variable {α:Type} [Inhabited α] {tc:α → TCell} {w W:World} {b o:Nat} {d:List α}
theorem SortAt.get3 (h:SortAt (encT tc) 3 w b o d W) {i:Nat} {x:α} (hi:d[i]? = some x) :
  (W.cell? ⟨b,o + i * 3,none⟩ = some (.bool (tc x).neg) ∧ W.cell? ⟨b,o + i * 3 + 1,none⟩ = some (.slice (tc x).ma (tc x).mn (tc x).mc) ∧ W.cell? ⟨b,o + i * 3 + 2,none⟩ = some (.slice (tc x).oa (tc x).on (tc x).oc)) ∧
  W.frozen? ⟨b,o + i * 3,none⟩ = false ∧ W.frozen? ⟨b,o + i * 3 + 1,none⟩ = false ∧ W.frozen? ⟨b,o + i * 3 + 2,none⟩ = false:=by
 have c0:=h.cell hi (c:=0) (by omega)
 have c1:=h.cell hi (c:=1) (by omega)
 have c2:=h.cell hi (c:=2) (by omega)
 exact ⟨⟨c0.1,c1.1,c2.1⟩,c0.2,c1.2,c2.2⟩
theorem SortAt.swap3 (h:SortAt (encT tc) 3 w b o d W) {d':List α} {i j:Nat} {x y:α} (hi:d[i]? = some x) (hj:d[j]? = some y) (hd:swp d.toArray i j = d'.toArray) :
  SortAt (encT tc) 3 w b o d' ((((((W.setCell ⟨b,o + i * 3,none⟩ (.bool (tc y).neg)).setCell ⟨b,o + i * 3 + 1,none⟩ (.slice (tc y).ma (tc y).mn (tc y).mc)).setCell ⟨b,o + i * 3 + 2,none⟩ (.slice (tc y).oa (tc y).on (tc y).oc)).setCell
   ⟨b,o + j * 3,none⟩ (.bool (tc x).neg)).setCell ⟨b,o + j * 3 + 1,none⟩ (.slice (tc x).ma (tc x).mn (tc x).mc)).setCell ⟨b,o + j * 3 + 2,none⟩ (.slice (tc x).oa (tc x).on (tc x).oc)):=by
 have:=h.swap (fun _ => rfl) (z05 hi) (z05 hj) hd
 rw [za8 hi,za8 hj] at this
 exact this
end
structure PCell where
 a:Option Addr
 n:Nat
 c:Nat
section
variable {α:Type} [Inhabited α] {pc:α → PCell} {w W:World} {b o:Nat} {d:List α}
end
end
end Go.Proofs.YtdcijfhkfhhfjaaGreat
