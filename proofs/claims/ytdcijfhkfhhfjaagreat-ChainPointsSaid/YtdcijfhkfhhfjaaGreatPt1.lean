/- What slices of limbs, powers, terms and polynomials hold in memory, and that it stays where memory only grows. Monomials as lists of powers: which may be, the exponents, the merge of two, their order. Plain. The walks of layer 7: May, the merge of two monomials, their order, product, degree, class. The merge of two monomials: each variable with both exponents is told, rising. How two numbers are ordered, how two monomials are. The order of two monomials: the program's answer. A monomial's degree in a variable, its class; the order of two, as polynomials use it. A slice of the call's own that has grown: what it holds, as powers. Numbers as lists of digits to a base, the lowest one first: their value, the canonical list. Plain. One step of the sums, differences, products and quotients that go digit by digit. Plain. The order of monomials is by exponents, the highest variable first: a total order. Plain. Polynomials as lists of a whole number and a monomial: coefficients, the canonical list, sums. Plain. Class, degree and rank of polynomials: by the lead, and by all terms. Plain. Numbers and polynomials as data, and what they mean. Plain. Limbs in memory: cut, read, made. The walks of layer 1: numbers without noughts at the end, copies. Two numbers held against each other. The difference of two numbers. Long division, plainly: a limb of the quotient by a guess, one step of the division, all steps. A region that draws its order, whose callees only make memory and hand back plain values: walked once, in the order of the text. Long division of limbs: the guess of a limb. -/
import Derived.Test.YtdcijfhkfhhfjaaGreatProg
import Derived.WalkKit
import Derived.Laws.NewBlocks
import Derived.BigQuiet
import Derived.Shelf.Abstract
import Derived.Deep.RegionHeld3
import Derived.Deep.QuietTactic
import Derived.Deep.OwnRows
import Derived.Laws.CopyOwn
import Derived.Deep.DrawnRows
import Derived.Laws.BitsLemmas
import Derived.WalkMore
set_option maxRecDepth 100000
set_option maxHeartbeats 16000000
namespace Go.Proofs.YtdcijfhkfhhfjaaGreat
section
open Go.RowKit
theorem hid {p:Prop} (h:p):Hid p:=h
abbrev Ext (w w':World):Prop:=Below w.heap.size w w'
theorem Ext.trans {a b c:World} (h:Ext a b) (k:Ext b c):Ext a c:=Below.trans h (Below.mono k h.size)
theorem Ext.refl (w:World):Ext w w:=Below.refl _ _
theorem Ext.alloc {a w:World} (h:Ext a w) (o:Obj):Ext a (w.alloc o):=Below.alloc h h.size o
theorem z0s {w:World} {b i:Nat} {v:Value} (h:w.cell? ⟨b,i,none⟩ = some v):b < w.heap.size:=World.block_lt_of_cell? w _ h
theorem Ext.cell {w w':World} (h:Ext w w') {b i:Nat} {v:Value} (hc:w.cell? ⟨b,i,none⟩ = some v):w'.cell? ⟨b,i,none⟩ = some v :=
 (Below.cell h (p:=⟨b,i,none⟩) (z0s hc)).trans hc
theorem z6k {B:Nat} {w w':World} (h:Below B w w') {b i:Nat} {v:Value} (hb:b < B) (hc:w.cell? ⟨b,i,none⟩ = some v):w'.cell? ⟨b,i,none⟩ = some v :=
 (Below.cell h (p:=⟨b,i,none⟩) hb).trans hc
theorem z04 (w:World) (cs:Array Value) (T:TypeId) {b i:Nat} {v:Value} (hb:b = w.heap.size) (h:cs[i]? = some v):(w.alloc (.cells cs T)).cell? ⟨b,i,none⟩ = some v:=by
 subst hb
 unfold World.cell?
 rw [heap_alloc_new]
 simpa using h
theorem cell_old {w:World} (o:Obj) {b i:Nat} {v:Value} (hc:w.cell? ⟨b,i,none⟩ = some v):(w.alloc o).cell? ⟨b,i,none⟩ = some v:=Ext.cell (Ext.alloc (Ext.refl w) o) hc
theorem zim {w:World} (o:Obj) {b i:Nat} (hb:b < w.heap.size) (hf:w.frozen? ⟨b,i,none⟩ = false):(w.alloc o).frozen? ⟨b,i,none⟩ = false:=(Below.frozen (Ext.alloc (Ext.refl w) o) (p:=⟨b,i,none⟩) hb).trans hf
theorem z16 {w:World} {a c:Addr} {u:Value} (hf:w.frozen? c = false):(w.setCell a u).frozen? c = false:=by simp [hf]
theorem z1h {w:World} {a:Addr} {u v:Value} (h:w.cell? a = some u):(w.setCell a v).cell? a = some v:=World.cell?_setCell_same w a v h
theorem z09 {w:World} {a:Addr} {u v:Value} {c:Addr} (h:w.cell? c = some u) (hne:a ≠ c):(w.setCell a v).cell? c = some u:=(World.cell?_setCell_other w a c v hne).trans h
theorem ao {b i j:Nat} (h:i ≠ j):(⟨b,i,none⟩:Addr) ≠ ⟨b,j,none⟩:=fun e => h (congrArg Addr.off e)
theorem ab {b c i j:Nat} (h:b ≠ c):(⟨b,i,none⟩:Addr) ≠ ⟨c,j,none⟩:=fun e => h (congrArg Addr.block e)
theorem z56 (w:World) (cs:Array Value) (T:TypeId) {i:Nat}:(w.alloc (.cells cs T)).frozen? ⟨w.heap.size,i,none⟩ = false:=by
 unfold World.frozen?
 rw [heap_alloc_new]
 simp
theorem z07 (w:World) (a:Addr) (u:Value):(w.setCell a u).heap.size = w.heap.size:=by simp [World.setCell]
theorem z02 (w:World) (o:Obj):(w.alloc o).heap.size = w.heap.size + 1:=by simp
theorem Ext.free {w w':World} (h:Ext w w') {b i:Nat} (hb:b < w.heap.size) (hf:w.frozen? ⟨b,i,none⟩ = false):w'.frozen? ⟨b,i,none⟩ = false:=(Below.frozen h (p:=⟨b,i,none⟩) hb).trans hf
structure RInt where
 neg:Bool
 mag:List Nat
 deriving DecidableEq,Inhabited
structure RTerm where
 c:RInt
 m:List (Int × Int)
 deriving DecidableEq,Inhabited
def Kept (S:Nat → Prop) (w w':World):Prop:=∀ k,S k → w'.heap[k]? = w.heap[k]?
theorem Kept.cell {S:Nat → Prop} {w w':World} (h:Kept S w w') {b i:Nat} {v:Value} (hb:S b) (hc:w.cell? ⟨b,i,none⟩ = some v):w'.cell? ⟨b,i,none⟩ = some v :=
 (World.cell?_of_block (w:=w) (h b hb)).trans hc
theorem Kept.refl (S:Nat → Prop) (w:World):Kept S w w:=fun _ _ => rfl
theorem Kept.trans {S:Nat → Prop} {a b c:World} (h:Kept S a b) (k:Kept S b c):Kept S a c:=fun i hi => (k i hi).trans (h i hi)
theorem Kept.of_below {B:Nat} {w w':World} (h:Below B w w'):Kept (· < B) w w':=fun k hk => h.block k hk
theorem Kept.mono {S S':Nat → Prop} {w w':World} (h:Kept S w w') (hs:∀ k,S' k → S k):Kept S' w w':=fun k hk => h k (hs k hk)
theorem Kept.setCell {S:Nat → Prop} {w:World} {a:Addr} (h:¬ S a.block) (u:Value):Kept S w (w.setCell a u) :=
 fun _ hk => Below.heap_setCell _ _ _ _ (fun e => h (e ▸ hk))
theorem Kept.grown {S:Nat → Prop} {w w':World} {row:Option Nat} (h:w.grownBy w' row) (hs:∀ k,S k → k < w.heap.size ∧ some k ≠ row):Kept S w w' :=
 fun k hk => h.block k (hs k hk).1 (hs k hk).2
theorem Kept.alloc {S:Nat → Prop} {w:World} (h:∀ k,S k → k < w.heap.size) (o:Obj):Kept S w (w.alloc o):=fun k hk => Below.heap_alloc _ _ _ (h k hk)
def z3a (S:Nat → Prop) (v:Value) (n:Nat) (b off:Nat):Prop :=
 ∃ a cap,v = .slice a n cap ∧ n ≤ cap ∧ cap ≤ maxLen ∧ (0 < n → a = some ⟨b,off,none⟩) ∧ (0 < n → S b)
def U32s (S:Nat → Prop) (w:World) (v:Value) (zs:List Nat):Prop :=
 ∃ b off,z3a S v zs.length b off ∧ ∀ j z,zs[j]? = some z → z < 4294967296 ∧ w.cell? ⟨b,off + j,none⟩ = some (.int .u32 (z:Nat))
def Pows (S:Nat → Prop) (w:World) (v:Value) (ps:List (Int × Int)):Prop :=
 ∃ b off,z3a S v ps.length b off ∧ ∀ j x,ps[j]? = some x → ((-9223372036854775808 ≤ x.1 ∧ x.1 ≤ 9223372036854775807) ∧ -9223372036854775808 ≤ x.2 ∧ x.2 ≤ 9223372036854775807) ∧
  w.cell? ⟨b,off + j * 2,none⟩ = some (.int .i64 x.1) ∧ w.cell? ⟨b,off + j * 2 + 1,none⟩ = some (.int .i64 x.2)
def z06 (S:Nat → Prop) (w:World) (v:Value) (ts:List RTerm):Prop :=
 ∃ b off,z3a S v ts.length b off ∧ ∀ j t,ts[j]? = some t → ∃ vm vo,w.cell? ⟨b,off + j * 3,none⟩ = some (.bool t.c.neg) ∧
  w.cell? ⟨b,off + j * 3 + 1,none⟩ = some vm ∧ w.cell? ⟨b,off + j * 3 + 2,none⟩ = some vo ∧ U32s S w vm t.c.mag ∧ Pows S w vo t.m
def z1r (S:Nat → Prop) (w:World) (v:Value) (l:List (List RTerm)):Prop :=
 ∃ b off,z3a S v l.length b off ∧ ∀ j p,l[j]? = some p → ∃ vp,w.cell? ⟨b,off + j,none⟩ = some vp ∧ z06 S w vp p
theorem z05 {α:Type} {l:List α} {j:Nat} {x:α} (h:l[j]? = some x):j < l.length:=(List.getElem?_eq_some_iff.1 h).1
theorem z01 {α:Type} {l:List α} {j:Nat} (h:j < l.length):∃ x,l[j]? = some x:=⟨l[j],List.getElem?_eq_getElem h⟩
theorem z3a.mono {S S':Nat → Prop} {v:Value} {n b off:Nat} (h:z3a S v n b off) (hS:∀ k,S k → S' k):z3a S' v n b off:=by
 obtain ⟨a,cap,h1,h2,h3,h4,h5⟩:=h
 exact ⟨a,cap,h1,h2,h3,h4,fun x => hS _ (h5 x)⟩
theorem z3a.in {S:Nat → Prop} {v:Value} {n b off:Nat} (h:z3a S v n b off) {j:Nat} (hj:j < n):S b:=by
 obtain ⟨a,cap,h1,h2,h3,h4,h5⟩:=h
 exact h5 (by omega)
theorem U32s.form {S:Nat → Prop} {w:World} {v:Value} {zs:List Nat} (h:U32s S w v zs):∃ a cap,v = .slice a zs.length cap:=by
 obtain ⟨b,off,⟨a,cap,h1,_⟩,_⟩:=h
 exact ⟨a,cap,h1⟩
theorem Pows.form {S:Nat → Prop} {w:World} {v:Value} {zs:List (Int × Int)} (h:Pows S w v zs):∃ a cap,v = .slice a zs.length cap:=by
 obtain ⟨b,off,⟨a,cap,h1,_⟩,_⟩:=h
 exact ⟨a,cap,h1⟩
theorem z06.form {S:Nat → Prop} {w:World} {v:Value} {zs:List RTerm} (h:z06 S w v zs):∃ a cap,v = .slice a zs.length cap:=by
 obtain ⟨b,off,⟨a,cap,h1,_⟩,_⟩:=h
 exact ⟨a,cap,h1⟩
section
variable {S S':Nat → Prop} {w w':World} {v:Value}
theorem U32s.to {zs:List Nat} (h:U32s S w v zs) (hk:Kept S w w') (hS:∀ k,S k → S' k):U32s S' w' v zs:=by
 obtain ⟨b,off,hs,hc⟩:=h
 exact ⟨b,off,hs.mono hS,fun j z hz => ⟨(hc j z hz).1,hk.cell (hs.in (z05 hz)) (hc j z hz).2⟩⟩
theorem Pows.to {ps:List (Int × Int)} (h:Pows S w v ps) (hk:Kept S w w') (hS:∀ k,S k → S' k):Pows S' w' v ps:=by
 obtain ⟨b,off,hs,hc⟩:=h
 exact ⟨b,off,hs.mono hS,fun j x hj => ⟨(hc j x hj).1,hk.cell (hs.in (z05 hj)) (hc j x hj).2.1,hk.cell (hs.in (z05 hj)) (hc j x hj).2.2⟩⟩
theorem z06.to {ts:List RTerm} (h:z06 S w v ts) (hk:Kept S w w') (hS:∀ k,S k → S' k):z06 S' w' v ts:=by
 obtain ⟨b,off,hs,hc⟩:=h
 refine ⟨b,off,hs.mono hS,fun j t hj => ?_⟩
 obtain ⟨vm,vo,h1,h2,h3,h4,h5⟩:=hc j t hj
 have hb:=hs.in (z05 hj)
 exact ⟨vm,vo,hk.cell hb h1,hk.cell hb h2,hk.cell hb h3,h4.to hk hS,h5.to hk hS⟩
theorem z1r.to {l:List (List RTerm)} (h:z1r S w v l) (hk:Kept S w w') (hS:∀ k,S k → S' k):z1r S' w' v l:=by
 obtain ⟨b,off,hs,hc⟩:=h
 refine ⟨b,off,hs.mono hS,fun j p hj => ?_⟩
 obtain ⟨vp,h1,h2⟩:=hc j p hj
 exact ⟨vp,hk.cell (hs.in (z05 hj)) h1,h2.to hk hS⟩
end
end
section
abbrev Mono:=List (Int × Int)
def z0a (last:Int):Mono → Bool
 | [] => true
 | x :: r => decide (last < x.1 ∧ x.1 ≤ 200 ∧ 1 ≤ x.2 ∧ x.2 ≤ 10000) && z0a x.1 r
def mayM (m:Mono):Bool:=z0a 0 m
def ex:Mono → Int → Int
 | [],_ => 0
 | x :: r,v => if x.1 = v then x.2 else ex r v
def z4a:Nat → Mono → Mono → List (Int × Int × Int)
 | 0,_,_ => []
 | _ + 1,[],[] => []
 | n + 1,x :: a,[] => (x.1,x.2,0) :: z4a n a []
 | n + 1,[],y :: b => (y.1,0,y.2) :: z4a n [] b
 | n + 1,x :: a,y :: b => if x.1 < y.1 then (x.1,x.2,0) :: z4a n a (y :: b) else if y.1 < x.1 then (y.1,0,y.2) :: z4a n (x :: a) b else (x.1,x.2,y.2) :: z4a n a b
def both (a b:Mono):List (Int × Int × Int):=z4a (a.length + b.length) a b
theorem z78 (n m:Nat) (a b:Mono) (h:a.length + b.length ≤ n) (h':a.length + b.length ≤ m):z4a n a b = z4a m a b:=by
 induction n generalizing m a b with
 | zero =>
  obtain rfl:a = []:=List.length_eq_zero_iff.1 (by omega)
  obtain rfl:b = []:=List.length_eq_zero_iff.1 (by omega)
  cases m <;> rfl
 | succ n ih =>
  cases m with
  | zero =>
   obtain rfl:a = []:=List.length_eq_zero_iff.1 (by omega)
   obtain rfl:b = []:=List.length_eq_zero_iff.1 (by omega)
   rfl
  | succ m =>
   cases a with
   | nil =>
    cases b with
    | nil => rfl
    | cons y b =>
     simp only [List.length_nil,List.length_cons] at h h'
     simp only [z4a]
     rw [ih m [] b (by simp; omega) (by simp; omega)]
   | cons x a =>
    cases b with
    | nil =>
     simp only [List.length_nil,List.length_cons] at h h'
     simp only [z4a]
     rw [ih m a [] (by simp; omega) (by simp; omega)]
    | cons y b =>
     simp only [List.length_cons] at h h'
     simp only [z4a]
     rw [ih m a (y :: b) (by simp; omega) (by simp; omega),ih m (x :: a) b (by simp; omega) (by simp; omega),ih m a b (by omega) (by omega)]
theorem z8m:both [] [] = []:=rfl
theorem z8n (x:Int × Int) (a:Mono):both (x :: a) [] = (x.1,x.2,0) :: both a []:=by
 unfold both
 rw [z78 _ (a.length + 1) _ _ (Nat.le_refl _) (by simp)]
 rfl
theorem z79 (y:Int × Int) (b:Mono):both [] (y :: b) = (y.1,0,y.2) :: both [] b:=by
 unfold both
 rw [z78 _ (b.length + 1) _ _ (Nat.le_refl _) (by simp)]
 simp [z4a]
theorem z8o (x y:Int × Int) (a b:Mono):both (x :: a) (y :: b) = if x.1 < y.1 then (x.1,x.2,0) :: both a (y :: b) else if y.1 < x.1 then (y.1,0,y.2) :: both (x :: a) b else (x.1,x.2,y.2) :: both a b:=by
 unfold both
 rw [z78 _ (a.length + b.length + 1 + 1) _ _ (Nat.le_refl _) (by simp; omega)]
 simp only [z4a]
 rw [z78 _ (a.length + (y :: b).length) a (y :: b) (by simp; omega) (Nat.le_refl _),z78 _ ((x :: a).length + b.length) (x :: a) b (by simp; omega) (Nat.le_refl _),z78 _ (a.length + b.length) a b (by omega) (Nat.le_refl _)]
theorem zqw (a b:Mono):(both a b).length ≤ a.length + b.length:=by
 unfold both
 generalize hn:a.length + b.length = n
 have h:∀ n (a b:Mono),(z4a n a b).length ≤ n:=by
  intro n
  induction n with
  | zero => intro a b; simp [z4a]
  | succ n ih =>
   intro a b
   cases a with
   | nil =>
    cases b with
    | nil => simp [z4a]
    | cons y b => simp only [z4a,List.length_cons]; have:=ih [] b; omega
   | cons x a =>
    cases b with
    | nil => simp only [z4a,List.length_cons]; have:=ih a []; omega
    | cons y b =>
     simp only [z4a]
     have h1:=ih a (y :: b)
     have h2:=ih (x :: a) b
     have h3:=ih a b
     split
     ·simp only [List.length_cons]; omega
     ·split <;> (simp only [List.length_cons]; omega)
 exact h n a b
def cmpI (x y:Int):Int:=if x < y then -1 else if y < x then 1 else 0
def cmpL:List (Int × Int × Int) → Int → Int
 | [],c => c
 | t :: r,c => cmpL r (if t.2.1 = t.2.2 then c else cmpI t.2.1 t.2.2)
def z0e (a b:Mono):Int:=cmpL (both a b) 0
def z43 (f:Int → Int → Int):List (Int × Int × Int) → Mono
 | [] => []
 | t :: r => if 0 < f t.2.1 t.2.2 then (t.1,f t.2.1 t.2.2) :: z43 f r else z43 f r
def z0m (a b:Mono):Mono:=z43 (· + ·) (both a b)
def z0r (m:Mono) (v:Int):Mono:=m.filter (fun x => x.1 != v)
def z4e (a b:Mono):Int:=if mayM a && mayM b then z0e a b else 0
def z1a (m:Mono):Mono:=if mayM m then m else []
def z1j (m:Mono):Int:=(m.getLast?.map (·.1)).getD 0
end
section
open Go.RowKit
theorem Pows.len_le {S:Nat → Prop} {w:World} {v:Value} {zs:Mono} (h:Pows S w v zs):zs.length ≤ 9223372036854775807:=by
 obtain ⟨b,off,⟨a,cap,h1,h2,h3,_⟩,_⟩:=h
 unfold maxLen at h3
 omega
theorem Pows.cons {S:Nat → Prop} {w:World} {v:Value} {x:Int × Int} {r:Mono} (h:Pows S w v (x :: r)) :
  ∃ b off n cap,v = .slice (some ⟨b,off,none⟩) (n + 1) cap ∧ n = r.length ∧ n + 1 ≤ cap ∧ cap ≤ 9223372036854775807 ∧ S b ∧
   ((-9223372036854775808 ≤ x.1 ∧ x.1 ≤ 9223372036854775807) ∧ -9223372036854775808 ≤ x.2 ∧ x.2 ≤ 9223372036854775807) ∧
   w.cell? ⟨b,off,none⟩ = some (.int .i64 x.1) ∧ w.cell? ⟨b,off + 1,none⟩ = some (.int .i64 x.2) ∧
   ∀ a',(0 < n → a' = some ⟨b,off + 2,none⟩) → Pows S w (.slice a' n (cap - 1)) r:=by
 obtain ⟨b,off,⟨a,cap,rfl,h2,h3,h4,h5⟩,hc⟩:=h
 obtain rfl:=h4 (by simp)
 have c0:=hc 0 x rfl
 simp only [Nat.zero_mul,Nat.add_zero] at c0
 simp only [List.length_cons] at h2
 refine ⟨b,off,r.length,cap,rfl,rfl,h2,h3,h5 (by simp),c0.1,c0.2.1,c0.2.2,fun a' ha => ⟨b,off + 2,⟨a',cap - 1,rfl,by omega,by unfold maxLen at *; omega,ha,fun h => h5 (by simp)⟩,fun j y hj => ?_⟩⟩
 have cj:=hc (j + 1) y (by simpa using hj)
 rw [show off + (j + 1) * 2 = off + 2 + j * 2 by omega] at cj
 exact cj
theorem Pows.nil {S:Nat → Prop} {w:World} {v:Value} (h:Pows S w v []):∃ a cap,v = .slice a 0 cap ∧ cap ≤ 9223372036854775807:=by
 obtain ⟨b,off,⟨a,cap,rfl,h2,h3,h4,h5⟩,hc⟩:=h
 exact ⟨a,cap,rfl,by unfold maxLen at *; omega⟩
theorem Pows.at {S:Nat → Prop} {w:World} {v:Value} {m:Mono} {k:Nat} {x:Int × Int} (h:Pows S w v m) (hx:m[k]? = some x) :
  ∃ b off cap,v = .slice (some ⟨b,off,none⟩) m.length cap ∧ m.length ≤ cap ∧ cap ≤ 9223372036854775807 ∧
   ((-9223372036854775808 ≤ x.1 ∧ x.1 ≤ 9223372036854775807) ∧ -9223372036854775808 ≤ x.2 ∧ x.2 ≤ 9223372036854775807) ∧
   w.cell? ⟨b,off + k * 2,none⟩ = some (.int .i64 x.1) ∧ w.cell? ⟨b,off + k * 2 + 1,none⟩ = some (.int .i64 x.2):=by
 obtain ⟨b,off,⟨a,cap,rfl,h2,h3,h4,h5⟩,hc⟩:=h
 obtain rfl:=h4 (by have:=z05 hx; omega)
 exact ⟨b,off,cap,rfl,h2,h3,hc k x hx⟩
theorem z6n {α:Type} {l:List α} {k:Nat} {x:α} (h:l[k]? = some x):l.drop k = x :: l.drop (k + 1):=by
 obtain ⟨hk,rfl⟩:=List.getElem?_eq_some_iff.1 h
 exact List.drop_eq_getElem_cons hk
theorem z32 {S:Nat → Prop} (v:Value) (m:Mono) (w:World) (h:Pows S w v m) (hS:∀ k,S k → k < w.heap.size) :
  Calls Tryz.prog 46 #[v] w fun e w' => e = .returned (.bool (mayM m)) ∧ Ext w w':=by
 have hl:=h.len_le
 have H:=hid h
 obtain ⟨a,cap,rfl⟩:=h.form
 go_enter Tryz.func46,Tryz.ntmps46
 go_wp2
 go_loopw [3,8] (fun l i wr => ∃ (k:Nat) (y:Int),k ≤ m.length ∧ i = .int .i64 k ∧ l = .int .i64 y ∧ (-9223372036854775808 ≤ y ∧ y ≤ 9223372036854775807) ∧ Ext w wr ∧ z0a 0 m = z0a y (m.drop k)) (fun _ i _ => m.length - (intOf i).toNat)
 case atStart => exact ⟨0,0,Nat.zero_le _,rfl,rfl,by omega,Ext.refl _,rfl⟩
 case round =>
  obtain ⟨k,y,hk,rfl,rfl,hyb,hx,hm⟩:=hrel
  have HX:=hid hx
  have HM:=hid hm
  clear hm
  by_cases hlt:k < m.length
  ·obtain ⟨t,ht⟩:=z01 hlt
   have hT:=z6n ht
   obtain ⟨b,off,cap',hv,hcap,hmax,⟨hb1,hb2⟩,h1,h2⟩:=(H.out.to (Kept.of_below hx |>.mono hS) (fun k hk => hk)).at ht
   obtain ⟨rfl,-,rfl⟩:a = some ⟨b,off,none⟩ ∧ True ∧ cap = cap':=by simpa using hv
   clear hv
   have HT:=hid hT
   have HK:=hid ht
   clear ht hT h hx
   obtain ⟨x,z⟩:=t
   simp only at h1 h2 hb1 hb2
   rcases (show (x ≤ y ∨ 200 < x ∨ z < 1 ∨ 10000 < z) ∨ (y < x ∧ x ≤ 200 ∧ 1 ≤ z ∧ z ≤ 10000) by omega) with hbad | ⟨g1,g2,g3,g4⟩
   ·have hf:mayM m = false:=by
     unfold mayM
     rw [HM.out,HT.out,z0a]
     have:¬ (y < x ∧ x ≤ 200 ∧ 1 ≤ z ∧ z ≤ 10000):=by omega
     simp [this]
    have HF:=hid hf
    clear hf
    rcases hbad with g | g | g | g <;> go_wp2
    all_goals
     go_ret
     exact ⟨by rw [HF.out]; rfl,HX.out.alloc _⟩
   ·go_wp2
    go_roundw
    case rel => exact ⟨k + 1,x,by omega,by go_num,rfl,hb1,HX.out.alloc _,by rw [HM.out,HT.out,z0a]; simp [g1,g2,g3,g4]⟩
    case measure => simp only [intOf]; omega
  ·obtain rfl:k = m.length:=by omega
   go_wp2
   all_goals
    go_ret
    have e:mayM m = true:=by
     unfold mayM
     rw [HM.out]
     simp [z0a]
    exact ⟨by rw [e]; rfl,HX.out⟩
end
section
open Go.RowKit
def z1i:Value → Nat
 | .slice _ n _ => n
 | _ => 0
def z1v (x:Int):Prop:=-9223372036854775808 ≤ x ∧ x ≤ 9223372036854775807
theorem zf9 {S:Nat → Prop} (g:Nat) (lb:Array Value) (eg:∀ args w,(callFunc g args).run Tryz.prog w = .ok (.enter g args) w) (I:List (Int × Int × Int) → World → Prop) (a b:Mono) (w:World)
  (hI:∀ d t r W,both a b = d ++ t :: r → I d W → Calls Tryz.prog g (#[.int .i64 t.1,.int .i64 t.2.1,.int .i64 t.2.2] ++ lb) W fun e W' => e = .returned (.tuple #[]) ∧ I (d ++ [t]) W')
  (hK:∀ d W,I d W → Kept S w W) (hD:∀ d W q,I d W → I d (W.drewN q)) (va vb:Value) (ha:Pows S w va a) (hb:Pows S w vb b) (h0:I [] w) :
  Calls Tryz.prog 115 #[va,vb,.func (.func g) #[] lb] w fun e w' => e = .returned (.tuple #[]) ∧ I (both a b) w':=by
 have HI:=hid hI
 have HK:=hid hK
 have HQ:=hid hD
 clear hI hK hD
 go_enter Tryz.func115,Tryz.ntmps115
 go_wp2
 go_loopw [0,1] (fun x y wr => ∃ d ra rb,both a b = d ++ both ra rb ∧ Pows S w x ra ∧ Pows S w y rb ∧ I d wr) (fun x y _ => z1i x + z1i y)
 case atStart => exact ⟨[],a,b,rfl,ha,hb,h0⟩
 case round =>
  obtain ⟨d,ra,rb,hd,hpa,hpb,hi⟩:=hrel
  have hk:=HK.out d _ hi
  clear ha hb h0
  cases ra with
  | nil =>
   obtain ⟨aa,ca,rfl,hca⟩:=hpa.nil
   cases rb with
   | nil =>
    obtain ⟨ab',cb,rfl,hcb⟩:=hpb.nil
    have HD:=hid hd
    have HF:=hid hi
    clear hd hi hpa hpb hk
    go_wp2
    all_goals
     go_end0
     refine ⟨rfl,?_⟩
     rw [HD.out,z8m,List.append_nil]
     exact HF.out
   | cons y rb =>
    obtain ⟨bb,offb,nb,cb,rfl,hnb,hnc,hcb,hSb,⟨by1,by2⟩,hy1,hy2,hrb⟩:=hpb.cons
    have gy1:=hk.cell hSb hy1
    have gy2:=hk.cell hSb hy2
    rw [z79] at hd
    have hcall:=fun q => HI.out d _ _ (wr.drewN q) hd (HQ.out d _ q hi)
    have HY:=hid (And.intro hy1 hy2)
    have HD:=hid hd
    have HA:=hid hpa
    have HB:=hid hrb
    have HN:=hid hnb
    clear hd hi hpa hpb hk hrb hnb hy1 hy2
    obtain ⟨v,z⟩:=y
    simp only at gy1 gy2 by1 by2 hcall HY
    have q1:((nb:Int) + 1 == 0) = false:=by simp; omega
    have HC:=hid hcall
    clear hcall
    go_wp2
    go_quiet (fail)
    go_wp2
    go_quiet (fail)
    go_wp2
    have S0:∀ q,(wr.drewN q).cell? ⟨bb,offb,none⟩ = some (.int .i64 v) ∧ (wr.drewN q).cell? ⟨bb,offb + 1,none⟩ = some (.int .i64 z):=fun q => ⟨by simpa using gy1,by simpa using gy2⟩
    go_region_held3 (fun W => W.cell? ⟨bb,offb,none⟩ = some (.int .i64 v) ∧ W.cell? ⟨bb,offb + 1,none⟩ = some (.int .i64 z)) (first | exact S0 _ | exact S1 | (refine ⟨?_,?_⟩ <;> simpa))
     (first | (go_at_fn g; (with_reducible refine (HC.out _).mono ?_); rintro e w' ⟨rfl,hi'⟩; have S1:=And.intro ((HK.out _ _ hi').cell hSb HY.out.1) ((HK.out _ _ hi').cell hSb HY.out.2)))
    go_wp2
    go_roundw
    case rel =>
     refine ⟨d ++ [(v,0,z)],[],rb,by rw [HD.out]; simp,HA.out,HB.out _ (fun h => if_neg (by omega)),hi'⟩
    case measure => simp only [z1i]; omega
  | cons x ra =>
   obtain ⟨ba,offa,na,ca,rfl,hna,hnca,hca,hSa,⟨bx1,bx2⟩,hx1,hx2,hra⟩:=hpa.cons
   have gx1:=hk.cell hSa hx1
   have gx2:=hk.cell hSa hx2
   cases rb with
   | nil =>
    obtain ⟨ab,cb,rfl,hcb⟩:=hpb.nil
    rw [z8n] at hd
    have hcall:=fun q => HI.out d _ _ (wr.drewN q) hd (HQ.out d _ q hi)
    have HY:=hid (And.intro hx1 hx2)
    have HD:=hid hd
    have HA:=hid hra
    have HB:=hid hpb
    clear hd hi hpa hpb hk hra hna hx1 hx2
    obtain ⟨v,z⟩:=x
    simp only at gx1 gx2 bx1 bx2 hcall HY
    have q1:((na:Int) + 1 == 0) = false:=by simp; omega
    have HC:=hid hcall
    clear hcall
    go_wp2
    go_quiet (fail)
    go_wp2
    have S0:∀ q,(wr.drewN q).cell? ⟨ba,offa,none⟩ = some (.int .i64 v) ∧ (wr.drewN q).cell? ⟨ba,offa + 1,none⟩ = some (.int .i64 z):=fun q => ⟨by simpa using gx1,by simpa using gx2⟩
    go_region_held3 (fun W => W.cell? ⟨ba,offa,none⟩ = some (.int .i64 v) ∧ W.cell? ⟨ba,offa + 1,none⟩ = some (.int .i64 z)) (first | exact S0 _ | exact S1 | (refine ⟨?_,?_⟩ <;> simpa))
     (first | (go_at_fn g; (with_reducible refine (HC.out _).mono ?_); rintro e w' ⟨rfl,hi'⟩; have S1:=And.intro ((HK.out _ _ hi').cell hSa HY.out.1) ((HK.out _ _ hi').cell hSa HY.out.2)))
    go_wp2
    go_roundw
    case rel =>
     refine ⟨d ++ [(v,z,0)],ra,[],by rw [HD.out]; simp,HA.out _ (fun h => if_neg (by omega)),HB.out,hi'⟩
    case measure => simp only [z1i]; omega
   | cons y rb =>
    obtain ⟨bb,offb,nb,cb,rfl,hnb,hncb,hcb,hSb,⟨by1,by2⟩,hy1,hy2,hrb⟩:=hpb.cons
    have gy1:=hk.cell hSb hy1
    have gy2:=hk.cell hSb hy2
    rw [z8o] at hd
    have HY:=hid (And.intro (And.intro hx1 hx2) (And.intro hy1 hy2))
    have HA:=hid hra
    have HB:=hid hrb
    have HPA:=hid hpa
    have HPB:=hid hpb
    have q0:((na:Int) + 1 == 0) = false:=by simp; omega
    have q1:((nb:Int) + 1 == 0) = false:=by simp; omega
    obtain ⟨u,z⟩:=x
    obtain ⟨v,t⟩:=y
    simp only at gx1 gx2 bx1 bx2 gy1 gy2 by1 by2 HY hd
    clear hpa hpb hk hra hrb hna hnb hx1 hx2 hy1 hy2
    have SA:∀ q,(wr.drewN q).cell? ⟨ba,offa,none⟩ = some (.int .i64 u) ∧ (wr.drewN q).cell? ⟨ba,offa + 1,none⟩ = some (.int .i64 z) ∧ (wr.drewN q).cell? ⟨bb,offb,none⟩ = some (.int .i64 v) ∧ (wr.drewN q).cell? ⟨bb,offb + 1,none⟩ = some (.int .i64 t):=fun q => ⟨by simpa using gx1,by simpa using gx2,by simpa using gy1,by simpa using gy2⟩
    rcases (show u < v ∨ v < u ∨ u = v by omega) with hlt | hlt | heq
    ·rw [if_pos hlt] at hd
     have hcall:=fun q => HI.out d _ _ (wr.drewN q) hd (HQ.out d _ q hi)
     have HD:=hid hd
     have HC:=hid hcall
     clear hcall hd hi
     go_wp2
     go_quiet (fail)
     go_wp2
     go_region_held3 (fun W => W.cell? ⟨ba,offa,none⟩ = some (.int .i64 u) ∧ W.cell? ⟨ba,offa + 1,none⟩ = some (.int .i64 z)) (first | exact ⟨(SA _).1,(SA _).2.1⟩ | exact S1 | (refine ⟨?_,?_⟩ <;> simpa))
      (first | (go_at_fn g; (with_reducible refine (HC.out _).mono ?_); rintro e w' ⟨rfl,hi'⟩; have S1:=And.intro ((HK.out _ _ hi').cell hSa HY.out.1.1) ((HK.out _ _ hi').cell hSa HY.out.1.2)))
     go_wp2
     go_roundw
     case rel => exact ⟨d ++ [(u,z,0)],ra,(v,t) :: rb,by rw [HD.out]; simp,HA.out _ (fun h => if_neg (by omega)),HPB.out,hi'⟩
     case measure => simp only [z1i]; omega
    ·rw [if_neg (by omega),if_pos hlt] at hd
     have hcall:=fun q => HI.out d _ _ (wr.drewN q) hd (HQ.out d _ q hi)
     have HD:=hid hd
     have HC:=hid hcall
     clear hcall hd hi
     go_wp2
     go_quiet (fail)
     go_wp2
     go_quiet (fail)
     go_wp2
     go_region_held3 (fun W => W.cell? ⟨bb,offb,none⟩ = some (.int .i64 v) ∧ W.cell? ⟨bb,offb + 1,none⟩ = some (.int .i64 t)) (first | exact (SA _).2.2 | exact S1 | (refine ⟨?_,?_⟩ <;> simpa))
      (first | (go_at_fn g; (with_reducible refine (HC.out _).mono ?_); rintro e w' ⟨rfl,hi'⟩; have S1:=And.intro ((HK.out _ _ hi').cell hSb HY.out.2.1) ((HK.out _ _ hi').cell hSb HY.out.2.2)))
     go_wp2
     go_roundw
     case rel => exact ⟨d ++ [(v,0,t)],(u,z) :: ra,rb,by rw [HD.out]; simp,HPA.out,HB.out _ (fun h => if_neg (by omega)),hi'⟩
     case measure => simp only [z1i]; omega
    ·subst heq
     rw [if_neg (by omega),if_neg (by omega)] at hd
     have hcall:=fun q => HI.out d _ _ (wr.drewN q) hd (HQ.out d _ q hi)
     have HD:=hid hd
     have HC:=hid hcall
     clear hcall hd hi
     go_wp2
     go_quiet (fail)
     go_wp2
     go_quiet (fail)
     go_wp2
     go_region_held3 (fun W => W.cell? ⟨ba,offa,none⟩ = some (.int .i64 u) ∧ W.cell? ⟨ba,offa + 1,none⟩ = some (.int .i64 z) ∧ W.cell? ⟨bb,offb + 1,none⟩ = some (.int .i64 t)) (first | exact ⟨(SA _).1,(SA _).2.1,(SA _).2.2.2⟩ | exact S1 | (refine ⟨?_,?_,?_⟩ <;> simpa))
      (first | (go_at_fn g; (with_reducible refine (HC.out _).mono ?_); rintro e w' ⟨rfl,hi'⟩; have S1:=And.intro ((HK.out _ _ hi').cell hSa HY.out.1.1) (And.intro ((HK.out _ _ hi').cell hSa HY.out.1.2) ((HK.out _ _ hi').cell hSb HY.out.2.2))))
     go_wp2
     go_quiet (fail)
     go_wp2
     go_roundw
     case rel => exact ⟨d ++ [(u,z,t)],ra,rb,by rw [HD.out]; simp,HA.out _ (fun h => if_neg (by omega)),HB.out _ (fun h => if_neg (by omega)),HQ.out _ _ _ hi'⟩
     case measure => simp only [z1i]; omega
end
section
open Go.RowKit
theorem zhf (x:Int) (w:World) (_h1:-9223372036854775808 ≤ x) (_h2:x ≤ 9223372036854775807) :
  Calls Tryz.prog 133 #[.int .i64 x] w fun e w' => e = .returned (.bool false) ∧ w' = w:=by
 have hb:(x != x) = false:=by simp
 go_enter Tryz.func133,Tryz.ntmps133
 go_wp2
 all_goals
  go_ret
  exact ⟨rfl,rfl⟩
theorem zvf (x y:Int) (w:World) (hx:-9223372036854775808 ≤ x ∧ x ≤ 9223372036854775807) (hy:-9223372036854775808 ≤ y ∧ y ≤ 9223372036854775807) :
  Calls Tryz.prog 117 #[.int .i64 x,.int .i64 y] w fun e w' => e = .returned (.int .i64 (cmpI x y)) ∧ w' = w:=by
 obtain ⟨hx1,hx2⟩:=hx
 obtain ⟨hy1,hy2⟩:=hy
 rcases (show x < y ∨ y < x ∨ x = y by omega) with h | h | h
 ·have e:cmpI x y = -1:=by simp [cmpI,h]
  rw [e]
  clear e
  go_enter Tryz.func117,Tryz.ntmps117
  go_wp2_with (go_at_call 133; refine (zhf _ _ (by assumption) (by assumption)).mono ?_; rintro e w' ⟨rfl,rfl⟩)
  all_goals
   go_ret
   exact ⟨rfl,rfl⟩
 ·have e:cmpI x y = 1:=by simp [cmpI,h]; omega
  rw [e]
  clear e
  go_enter Tryz.func117,Tryz.ntmps117
  go_wp2_with (go_at_call 133; refine (zhf _ _ (by assumption) (by assumption)).mono ?_; rintro e w' ⟨rfl,rfl⟩)
  all_goals
   go_ret
   exact ⟨rfl,rfl⟩
 ·subst h
  have e:cmpI x x = 0:=by simp [cmpI]
  rw [e]
  clear e
  go_enter Tryz.func117,Tryz.ntmps117
  go_wp2_with (go_at_call 133; refine (zhf _ _ (by assumption) (by assumption)).mono ?_; rintro e w' ⟨rfl,rfl⟩)
  all_goals
   go_ret
   exact ⟨rfl,rfl⟩
theorem zqx (z x y c:Int) (b:Nat) (w:World) (hx:z1v x) (hy:z1v y) (hc:w.cell? ⟨b,0,none⟩ = some (.int .i64 c)) (hf:w.frozen? ⟨b,0,none⟩ = false) :
  Calls Tryz.prog 116 #[.int .i64 z,.int .i64 x,.int .i64 y,.pointer (some ⟨b,0,none⟩)] w fun e w' => e = .returned (.tuple #[]) ∧ w' = if x = y then w else w.setCell ⟨b,0,none⟩ (.int .i64 (cmpI x y)):=by
 unfold z1v at hx hy
 by_cases h:x = y
 ·subst h
  have hb:(x != x) = false:=by simp
  go_enter Tryz.func116,Tryz.ntmps116
  go_wp2
  all_goals
   go_end0
   simp
 ·have hb:(x != y) = true:=by simpa using h
  rw [if_neg h]
  go_enter Tryz.func116,Tryz.ntmps116
  go_wp2_with (go_at_call 117; refine (zvf _ _ _ hx hy).mono ?_; rintro e w' ⟨rfl,rfl⟩)
  all_goals
   go_end0
   exact ⟨rfl,rfl⟩
theorem zhg (d:List (Int × Int × Int)) (t:Int × Int × Int) (c:Int):cmpL (d ++ [t]) c = if t.2.1 = t.2.2 then cmpL d c else cmpI t.2.1 t.2.2:=by
 induction d generalizing c with
 | nil => simp [cmpL]
 | cons s d ih => simp [cmpL,ih]
def inBounds (m:Mono):Prop:=∀ x ∈ m,z1v x.1 ∧ z1v x.2
theorem Pows.inBounds {S:Nat → Prop} {w:World} {v:Value} {m:Mono} (h:Pows S w v m):inBounds m:=by
 obtain ⟨b,off,hs,hc⟩:=h
 intro x hx
 obtain ⟨j,hj⟩:=List.getElem?_of_mem hx
 exact (hc j x hj).1
theorem zfa (n:Nat) (a b:Mono) (ha:inBounds a) (hb:inBounds b):∀ t ∈ z4a n a b,z1v t.1 ∧ z1v t.2.1 ∧ z1v t.2.2:=by
 have h0:z1v 0:=by unfold z1v; omega
 induction n generalizing a b with
 | zero => intro t ht; simp [z4a] at ht
 | succ n ih =>
  intro t ht
  cases a with
  | nil =>
   cases b with
   | nil => simp [z4a] at ht
   | cons y b =>
    simp only [z4a,List.mem_cons] at ht
    have hy:=hb y (by simp)
    rcases ht with rfl | ht
    ·exact ⟨hy.1,h0,hy.2⟩
    ·exact ih [] b ha (fun x hx => hb x (by simp [hx])) t ht
  | cons x a =>
   have hx:=ha x (by simp)
   have ha':inBounds a:=fun x hx => ha x (by simp [hx])
   cases b with
   | nil =>
    simp only [z4a,List.mem_cons] at ht
    rcases ht with rfl | ht
    ·exact ⟨hx.1,hx.2,h0⟩
    ·exact ih a [] ha' hb t ht
   | cons y b =>
    have hy:=hb y (by simp)
    have hb':inBounds b:=fun x hx => hb x (by simp [hx])
    simp only [z4a] at ht
    split at ht
    ·rcases List.mem_cons.1 ht with rfl | ht
     ·exact ⟨hx.1,hx.2,h0⟩
     ·exact ih a (y :: b) ha' hb t ht
    ·split at ht
     ·rcases List.mem_cons.1 ht with rfl | ht
      ·exact ⟨hy.1,h0,hy.2⟩
      ·exact ih (x :: a) b ha hb' t ht
     ·rcases List.mem_cons.1 ht with rfl | ht
      ·exact ⟨hx.1,hx.2,hy.2⟩
      ·exact ih a b ha' hb' t ht
theorem zay {a b:Mono} (ha:inBounds a) (hb:inBounds b):∀ t ∈ both a b,z1v t.1 ∧ z1v t.2.1 ∧ z1v t.2.2:=zfa _ a b ha hb
end
section
open Go.RowKit
theorem Kept.ext {S:Nat → Prop} {w w':World} (h:Ext w w') (hS:∀ k,S k → k < w.heap.size):Kept S w w':=(Kept.of_below h).mono hS
theorem Ext.drewN {a w:World} (h:Ext a w) (q:Nat):Ext a (w.drewN q) :=
 ⟨h.os,h.tape,h.output,h.size,h.block⟩
theorem zfb {S:Nat → Prop} (va vb:Value) (a b:Mono) (w:World) (ha:Pows S w va a) (hb:Pows S w vb b) (hS:∀ k,S k → k < w.heap.size) :
  Calls Tryz.prog 85 #[va,vb] w fun e w' => e = .returned (.tuple #[.int .i64 (if mayM a && mayM b then z0e a b else 0),.int .i64 (if mayM a && mayM b then 0 else 2)]) ∧ Ext w w':=by
 have hmf:∀ (fn:Fn) (first cap:Array Value) (w:World),(Instr.makeFunc fn first cap).run Tryz.prog w = .ok (.func fn first cap) w:=fun _ _ _ _ => rfl
 have hnot:∀ (x:Bool) (w:World),(Op.unary .not (.bool x)).run Tryz.prog w = .ok (.bool (!x)) w:=fun _ _ => rfl
 have HA:=hid ha
 have HB:=hid hb
 obtain ⟨aa,ca,rfl⟩:=ha.form
 obtain ⟨ab,cb,rfl⟩:=hb.form
 clear ha hb
 go_enter Tryz.func85,Tryz.ntmps85
 go_wp2_with fail
 refine (z32 _ a w HA.out hS).mono ?_
 rintro e w1 ⟨rfl,hx1⟩
 have HX1:=hid hx1
 clear hx1
 cases hma:mayM a with
 | false =>
  go_wp2
  all_goals
   go_ret2
   exact ⟨rfl,HX1.out⟩
 | true =>
  go_wp2_with fail
  refine (z32 _ b w1 (HB.out.to (Kept.ext HX1.out hS) (fun _ h => h)) (fun k hk => Nat.lt_of_lt_of_le (hS k hk) HX1.out.size)).mono ?_
  rintro e w2 ⟨rfl,hx2⟩
  have HX2:=hid (HX1.out.trans hx2)
  clear hx2
  cases hmb:mayM b with
  | false =>
   go_wp2
   all_goals
    go_ret2
    exact ⟨rfl,HX2.out⟩
  | true =>
   go_wp2_with fail
   have hS2:∀ k,S k → k < w2.heap.size:=fun k hk => Nat.lt_of_lt_of_le (hS k hk) HX2.out.size
   refine (zf9 (S:=S) 116 #[.pointer (some ⟨w2.heap.size,0,none⟩)] (enters_of Tryz.func116 (by kernel_rfl) rfl)
    (fun d W => W.cell? ⟨w2.heap.size,0,none⟩ = some (.int .i64 (cmpL d 0)) ∧ W.frozen? ⟨w2.heap.size,0,none⟩ = false ∧ Ext w2 W) a b _ ?_ ?_ ?_ _ _
    (HA.out.to (Kept.ext (HX2.out.alloc _) hS) (fun _ h => h)) (HB.out.to (Kept.ext (HX2.out.alloc _) hS) (fun _ h => h)) ⟨z04 _ _ _ rfl rfl,z56 _ _ _,Ext.alloc (Ext.refl _) _⟩).mono ?_
   ·rintro d t r W hd ⟨h1,h2,h3⟩
    have hb:=zay HA.out.inBounds HB.out.inBounds t (by rw [hd]; simp)
    rw [show (#[Value.int .i64 t.1,.int .i64 t.2.1,.int .i64 t.2.2] ++ #[.pointer (some ⟨w2.heap.size,0,none⟩)]:Array Value) = #[.int .i64 t.1,.int .i64 t.2.1,.int .i64 t.2.2,.pointer (some ⟨w2.heap.size,0,none⟩)] from rfl]
    refine (zqx t.1 t.2.1 t.2.2 _ _ W hb.2.1 hb.2.2 h1 h2).mono ?_
    rintro e w' ⟨rfl,rfl⟩
    refine ⟨rfl,?_⟩
    rw [zhg]
    split
    ·exact ⟨h1,h2,h3⟩
    ·exact ⟨z1h h1,z16 h2,h3.setCell (p:=⟨w2.heap.size,0,none⟩) (Nat.le_refl _) _⟩
   ·rintro d W ⟨_,_,h3⟩ k hk
    exact (Kept.ext h3 hS2 k hk).trans (Kept.ext (Ext.alloc (Ext.refl w2) _) hS2 k hk).symm
   ·rintro d W q ⟨h1,h2,h3⟩
    exact ⟨by simpa using h1,by simpa using h2,h3.drewN q⟩
   rintro e w3 ⟨rfl,h1,h2,h3⟩
   have HX3:=hid (HX2.out.trans h3)
   clear h3
   go_wp2
   all_goals
    go_ret2
    exact ⟨rfl,HX3.out⟩
end
section
open Go.RowKit
theorem Pows.empty (S:Nat → Prop) (w:World) (a:Option Addr):Pows S w (.slice a 0 0) [] :=
 ⟨0,0,⟨a,0,rfl,Nat.le_refl _,Nat.zero_le _,fun h => absurd h (Nat.lt_irrefl _),fun h => absurd h (Nat.lt_irrefl _)⟩,fun j x hx => by simp at hx⟩
def zxy (a b:Mono):Int:=if mayM a && mayM b then 0 else 2
theorem zdp {S:Nat → Prop} (va vb:Value) (a b:Mono) (w:World) (ha:Pows S w va a) (hb:Pows S w vb b) (hS:∀ k,S k → k < w.heap.size) :
  Calls Tryz.prog 85 #[va,vb] w fun e w' => e = .returned (.tuple #[.int .i64 (z4e a b),.int .i64 (zxy a b)]) ∧ Ext w w':=zfb va vb a b w ha hb hS
theorem z7a {S:Nat → Prop} (va vb:Value) (a b:Mono) (w:World) (ha:Pows S w va a) (hb:Pows S w vb b) (hS:∀ k,S k → k < w.heap.size) :
  Calls Tryz.prog 47 #[va,vb] w fun e w' => e = .returned (.int .i64 (z4e a b)) ∧ Ext w w':=by
 have HA:=hid ha
 have HB:=hid hb
 obtain ⟨aa,ca,rfl⟩:=ha.form
 obtain ⟨ab,cb,rfl⟩:=hb.form
 clear ha hb
 go_enter Tryz.func47,Tryz.ntmps47
 go_wp2_with fail
 refine (zdp _ _ a b w HA.out HB.out hS).mono ?_
 rintro e w1 ⟨rfl,hx1⟩
 have HX1:=hid hx1
 clear hx1
 go_wp2
 all_goals
  go_ret
  exact ⟨rfl,HX1.out⟩
theorem z9g {S:Nat → Prop} (v:Value) (m:Mono) (w:World) (h:Pows S w v m) (hS:∀ k,S k → k < w.heap.size) :
  Calls Tryz.prog 93 #[v] w fun e w' => ∃ v',e = .returned v' ∧ Pows S w' v' (z1a m) ∧ Ext w w':=by
 have H:=hid h
 obtain ⟨a,c,rfl⟩:=h.form
 clear h
 go_enter Tryz.func93,Tryz.ntmps93
 go_wp2_with fail
 refine (z32 _ m w H.out hS).mono ?_
 rintro e w1 ⟨rfl,hx1⟩
 have HX1:=hid hx1
 clear hx1
 cases hm:mayM m with
 | false =>
  go_wp2
  all_goals
   go_ret
   refine ⟨_,rfl,?_,HX1.out⟩
   rw [show z1a m = [] by simp [z1a,hm]]
   exact Pows.empty _ _ _
 | true =>
  go_wp2
  all_goals
   go_ret
   refine ⟨_,rfl,?_,HX1.out⟩
   rw [show z1a m = m by simp [z1a,hm]]
   exact H.out.to (Kept.ext HX1.out hS) (fun _ h => h)
theorem zvg {m:Mono} {k:Nat} {x:Int × Int} {v:Int} (h:m[k]? = some x):ex (m.drop k) v = if x.1 = v then x.2 else ex (m.drop (k + 1)) v:=by
 rw [z6n h]
 rfl
theorem zaz {S:Nat → Prop} (v:Value) (m:Mono) (x:Int) (w:World) (h:Pows S w v m) (hS:∀ k,S k → k < w.heap.size) (_hx:-9223372036854775808 ≤ x ∧ x ≤ 9223372036854775807) :
  Calls Tryz.prog 64 #[v,.int .i64 x] w fun e w' => e = .returned (.int .i64 (ex (z1a m) x)) ∧ Ext w w':=by
 have H:=hid h
 obtain ⟨a,c,rfl⟩:=h.form
 clear h
 go_enter Tryz.func64,Tryz.ntmps64
 go_wp2_with fail
 refine (z9g _ m w H.out hS).mono ?_
 rintro e w1 ⟨v',rfl,hp,hx1⟩
 have hS1:∀ k,S k → k < w1.heap.size:=fun k hk => Nat.lt_of_lt_of_le (hS k hk) hx1.size
 have HX1:=hid hx1
 clear hx1 H
 generalize hpm:z1a m = m' at hp
 have HPM:=hid hpm
 clear hpm
 have hl:=hp.len_le
 have HP:=hid hp
 obtain ⟨a',c',rfl⟩:=hp.form
 clear hp
 go_wp2
 go_loopw [10] (fun i wr => ∃ k:Nat,k ≤ m'.length ∧ i = .int .i64 k ∧ Ext w1 wr ∧ ex m' x = ex (m'.drop k) x) (fun i _ => m'.length - (intOf i).toNat)
 case atStart => exact ⟨0,Nat.zero_le _,rfl,Ext.refl _,rfl⟩
 case round =>
  obtain ⟨k,hk,rfl,hxr,hm⟩:=hrel
  have HM:=hid hm
  clear hm
  by_cases hlt:k < m'.length
  ·obtain ⟨t,ht⟩:=z01 hlt
   obtain ⟨b,off,cap',hv,hcap,hmax,⟨hb1,hb2⟩,h1,h2⟩:=(HP.out.to (Kept.ext hxr hS1) (fun _ h => h)).at ht
   obtain ⟨rfl,-,rfl⟩:a' = some ⟨b,off,none⟩ ∧ True ∧ c' = cap':=by simpa using hv
   have HE:=hid (zvg (v:=x) ht)
   have HX:=hid hxr
   clear hv ht hxr
   obtain ⟨u,z⟩:=t
   simp only at h1 h2 hb1 hb2 HE
   by_cases hu:u = x
   ·have hb:(u == x) = true:=by simpa using hu
    have HU:=hid hu
    clear hu
    go_wp2
    all_goals
     go_ret
     refine ⟨?_,HX1.out.trans (HX.out.alloc _)⟩
     rw [HPM.out,HM.out,HE.out,if_pos HU.out]
     rfl
   ·have hb:(u == x) = false:=by simpa using hu
    have HU:=hid hu
    clear hu
    go_wp2
    go_roundw
    case rel => exact ⟨k + 1,by omega,by go_num,HX.out.alloc _,by rw [HM.out,HE.out,if_neg HU.out]⟩
    case measure => simp only [intOf]; omega
  ·obtain rfl:k = m'.length:=by omega
   have HX:=hid hxr
   go_wp2
   all_goals
    go_ret
    refine ⟨?_,HX1.out.trans HX.out⟩
    rw [HPM.out,HM.out,List.drop_length]
    rfl
theorem zk1 {S:Nat → Prop} (v:Value) (m:Mono) (w:World) (h:Pows S w v m) (hS:∀ k,S k → k < w.heap.size) :
  Calls Tryz.prog 53 #[v] w fun e w' => e = .returned (.int .i64 (z1j (z1a m))) ∧ Ext w w':=by
 have H:=hid h
 obtain ⟨a,c,rfl⟩:=h.form
 clear h
 go_enter Tryz.func53,Tryz.ntmps53
 go_wp2_with fail
 refine (z9g _ m w H.out hS).mono ?_
 rintro e w1 ⟨v',rfl,hp,hx1⟩
 have HX1:=hid hx1
 clear hx1 H
 generalize hpm:z1a m = m' at hp
 have HPM:=hid hpm
 clear hpm
 have hl:=hp.len_le
 have HP:=hid hp
 obtain ⟨a',c',rfl⟩:=hp.form
 clear hp
 by_cases h0:0 < m'.length
 ·obtain ⟨t,ht⟩:=z01 (show m'.length - 1 < m'.length by omega)
  obtain ⟨b,off,cap',hv,hcap,hmax,⟨hb1,hb2⟩,h1,h2⟩:=HP.out.at ht
  obtain ⟨rfl,-,rfl⟩:a' = some ⟨b,off,none⟩ ∧ True ∧ c' = cap':=by simpa using hv
  have e:z1j m' = t.1:=by
   unfold z1j
   rw [List.getLast?_eq_getElem?,ht]
   rfl
  have E:=hid e
  clear hv ht e
  go_wp2
  all_goals
   go_ret
   refine ⟨?_,HX1.out⟩
   rw [HPM.out,E.out]
   rfl
 ·have e:m' = []:=List.length_eq_zero_iff.1 (by omega)
  subst e
  go_wp2
  all_goals
   go_ret
   refine ⟨?_,HX1.out⟩
   rw [HPM.out]
   rfl
end
section
open Go.RowKit
def z4b (m:Mono):List Value:=m.flatMap fun x => [.int .i64 x.1,.int .i64 x.2]
theorem z6o (m k:Mono):z4b (m ++ k) = z4b m ++ z4b k:=by simp [z4b]
theorem z9z (m:Mono):(z4b m).length = m.length * 2:=by
 induction m with
 | nil => rfl
 | cons x r ih =>
  show (Value.int .i64 x.1 :: Value.int .i64 x.2 :: z4b r).length = _
  simp only [List.length_cons,ih]
  omega
theorem zb0 {m:Mono} {j:Nat} {x:Int × Int} (h:m[j]? = some x):(z4b m)[j * 2]? = some (.int .i64 x.1) ∧ (z4b m)[j * 2 + 1]? = some (.int .i64 x.2):=by
 induction m generalizing j with
 | nil => simp at h
 | cons y r ih =>
  have e:z4b (y :: r) = Value.int .i64 y.1 :: Value.int .i64 y.2 :: z4b r:=rfl
  rw [e]
  cases j with
  | zero =>
   simp at h
   subst h
   exact ⟨rfl,rfl⟩
  | succ j =>
   have:=ih (j:=j) (by simpa using h)
   rw [show (j + 1) * 2 = j * 2 + 1 + 1 by omega]
   simpa using this
theorem z8p {w:World} {base:Nat} {e:TypeId} {v:Value} {m:Mono} (h:w.ownsRow base e 2 v m.length (z4b m)) (hb:inBounds m):Pows (fun k => base ≤ k ∧ k < w.heap.size) w v m:=by
 have hlt:=h.lt
 rcases h.2 with ⟨rfl,h0⟩ | ⟨g,cap,cur,rfl,hg,hh,h1,h2,h3,h4⟩
 ·obtain rfl:m = []:=List.length_eq_zero_iff.1 h0
  exact Pows.empty _ _ _
 ·refine ⟨g,0,⟨_,cap,rfl,h1,h2,fun _ => rfl,fun _ => hlt g rfl⟩,fun j x hj => ⟨hb x (List.mem_of_getElem? hj),?_,?_⟩⟩
  ·rw [h.cellAt (0 + j * 2) (by have:=z05 hj; omega),Nat.zero_add]
   exact (zb0 hj).1
  ·rw [h.cellAt (0 + j * 2 + 1) (by have:=z05 hj; omega),Nat.zero_add]
   exact (zb0 hj).2
theorem z0n {a w w':World} {row:Option Nat} (h:Ext a w) (hg:w.grownBy w' row) (hr:∀ k,row = some k → a.heap.size ≤ k):Ext a w' :=
 ⟨hg.os.trans h.os,hg.tape.trans h.tape,hg.output.trans h.output,Nat.le_trans h.size hg.size,
  fun k hk => (hg.block k (Nat.lt_of_lt_of_le hk h.size) (fun e => by have:=hr k e.symm; omega)).trans (h.block k hk)⟩
theorem zhh {last:Int} {m:Mono} (h:z0a last m = true) (h0:0 ≤ last) (h2:last ≤ 200):(m.length:Int) ≤ 200 - last:=by
 induction m generalizing last with
 | nil => simp; omega
 | cons x r ih =>
  simp only [z0a,Bool.and_eq_true,decide_eq_true_eq] at h
  have:=ih h.2 (by omega) (by omega)
  simp only [List.length_cons]
  omega
theorem z4g {m:Mono} (h:mayM m = true):m.length ≤ 200:=by
 have:=zhh h (by omega) (by omega)
 omega
theorem zk2 (m:Mono):(z1a m).length ≤ 200:=by
 unfold z1a
 split
 ·rename_i h
  exact z4g h
 ·simp
end
section
def val (B:Nat):List Nat → Nat
 | [] => 0
 | z :: r => z + B * val B r
def repF (B:Nat):Nat → Nat → List Nat
 | 0,_ => []
 | f + 1,n => if n = 0 then [] else (n % B) :: repF B f (n / B)
def rep (B n:Nat):List Nat:=repF B n n
def zah:List Nat → List Nat
 | [] => []
 | d :: r => if zah r = [] ∧ d = 0 then [] else d :: zah r
section
variable {B:Nat}
theorem z8q (f:Nat):repF B f 0 = []:=by cases f <;> simp [repF]
theorem zm8 (hB:2 ≤ B) (f g n:Nat) (hf:n ≤ f) (hg:n ≤ g):repF B f n = repF B g n:=by
 induction f generalizing g n with
 | zero =>
  obtain rfl:n = 0:=by omega
  rw [z8q,z8q]
 | succ f ih =>
  cases g with
  | zero =>
   obtain rfl:n = 0:=by omega
   rw [z8q,z8q]
  | succ g =>
   simp only [repF]
   split
   ·rfl
   ·have h:n / B < n:=Nat.div_lt_self (by omega) (by omega)
    rw [ih g (n / B) (by omega) (by omega)]
theorem z36:rep B 0 = []:=rfl
theorem z6p (hB:2 ≤ B) {n:Nat} (h:0 < n):rep B n = (n % B) :: rep B (n / B):=by
 unfold rep
 have hd:n / B < n:=Nat.div_lt_self h (by omega)
 obtain ⟨m,rfl⟩:∃ m,n = m + 1:=⟨n - 1,by omega⟩
 rw [repF,if_neg (by omega),zm8 hB m ((m + 1) / B) _ (by omega) (Nat.le_refl _)]
theorem z0d (hB:2 ≤ B) (n:Nat):val B (rep B n) = n:=by
 induction n using Nat.strongRecOn with
 | ind n ih =>
  by_cases h:n = 0
  ·subst h; rfl
  ·rw [z6p hB (by omega),val,ih _ (Nat.div_lt_self (by omega) (by omega))]
   exact Nat.mod_add_div n B
theorem z3q (hB:2 ≤ B) (n:Nat):∀ d ∈ rep B n,d < B:=by
 induction n using Nat.strongRecOn with
 | ind n ih =>
  by_cases h:n = 0
  ·subst h; intro d hd; simp [z36] at hd
  ·rw [z6p hB (by omega)]
   intro d hd
   rcases List.mem_cons.1 hd with rfl | hd
   ·exact Nat.mod_lt _ (by omega)
   ·exact ih _ (Nat.div_lt_self (by omega) (by omega)) d hd
theorem z2d (hB:2 ≤ B) {n:Nat}:rep B n = [] ↔ n = 0:=by
 constructor
 ·intro h
  have:=z0d hB n
  rw [h] at this
  exact this.symm
 ·rintro rfl; rfl
theorem zqy (hB:2 ≤ B) {d m:Nat} (hd:d < B) (h:¬ (m = 0 ∧ d = 0)):rep B (d + B * m) = d :: rep B m:=by
 have hpos:0 < d + B * m:=by
  rcases Nat.eq_zero_or_pos m with rfl | hm
  ·omega
  ·have:=Nat.mul_pos (show 0 < B by omega) hm; omega
 rw [z6p hB hpos,Nat.add_mul_mod_self_left,Nat.mod_eq_of_lt hd,Nat.add_mul_div_left _ _ (by omega),Nat.div_eq_of_lt hd,Nat.zero_add]
theorem z5r (hB:2 ≤ B) (l:List Nat) (hl:∀ d ∈ l,d < B):zah l = rep B (val B l):=by
 induction l with
 | nil => rfl
 | cons d r ih =>
  have ih:=ih (fun x hx => hl x (List.mem_cons_of_mem _ hx))
  simp only [zah,val]
  have hd:=hl d (by simp)
  rw [ih]
  by_cases h:val B r = 0 ∧ d = 0
  ·rw [if_pos ⟨(z2d hB).2 h.1,h.2⟩,h.1,h.2]
   simp [z36]
  ·rw [if_neg (fun g => h ⟨(z2d hB).1 g.1,g.2⟩),zqy hB hd h]
theorem z1k (l:List Nat) (hl:∀ d ∈ l,d < B):val B l < B ^ l.length:=by
 induction l with
 | nil => simp [val]
 | cons d r ih =>
  have ih:=ih (fun x hx => hl x (List.mem_cons_of_mem _ hx))
  have hd:=hl d (by simp)
  simp only [val,List.length_cons,Nat.pow_succ]
  have h:B * (val B r + 1) ≤ B * B ^ r.length:=Nat.mul_le_mul_left _ ih
  rw [Nat.mul_add] at h
  rw [Nat.mul_comm (B ^ r.length) B]
  omega
theorem z0f (hB:2 ≤ B) (n k:Nat) (h:n < B ^ k):(rep B n).length ≤ k:=by
 induction k generalizing n with
 | zero =>
  obtain rfl:n = 0:=by simpa using h
  simp [z36]
 | succ k ih =>
  by_cases h0:n = 0
  ·subst h0; simp [z36]
  ·rw [z6p hB (by omega),List.length_cons]
   have:=ih (n / B) (by rw [Nat.div_lt_iff_lt_mul (by omega),← Nat.pow_succ]; exact h)
   omega
theorem z0y (hB:2 ≤ B) (n:Nat):n < B ^ (rep B n).length:=by
 have:=z1k (rep B n) (z3q hB n)
 rwa [z0d hB] at this
theorem z3d (l m:List Nat):val B (l ++ m) = val B l + B ^ l.length * val B m:=by
 induction l with
 | nil => simp [val]
 | cons d r ih =>
  simp only [List.cons_append,val,ih,List.length_cons,Nat.pow_succ,Nat.mul_add]
  rw [Nat.mul_comm (B ^ r.length) B,Nat.mul_assoc]
  omega
theorem z57 (l:List Nat) (z:Nat):val B (l ++ [z]) = val B l + B ^ l.length * z:=by
 rw [z3d]; simp [val]
theorem z3k {l:List Nat} {k z:Nat} (h:l[k]? = some z):val B (l.take (k + 1)) = val B (l.take k) + B ^ k * z:=by
 rw [List.take_add_one,h]
 obtain ⟨hk,_⟩:=List.getElem?_eq_some_iff.1 h
 show val B (l.take k ++ [z]) = _
 rw [z57,List.length_take,Nat.min_eq_left (by omega)]
theorem z7b {l:List Nat} {k z:Nat} (h:l[k]? = some z):val B (l.drop k) = z + B * val B (l.drop (k + 1)):=by
 obtain ⟨hk,rfl⟩:=List.getElem?_eq_some_iff.1 h
 rw [List.drop_eq_getElem_cons hk,val]
theorem z5s (n:Nat):val B (List.replicate n 0) = 0:=by
 induction n with
 | zero => rfl
 | succ n ih => simp [List.replicate_succ,val,ih]
theorem zvh (hB:2 ≤ B) (l:List Nat) (hl:∀ d ∈ l,d < B) (hc:l.getLast? ≠ some 0):rep B (val B l) = l:=by
 rw [← z5r hB l hl]
 clear hl
 induction l with
 | nil => rfl
 | cons d r ih =>
  simp only [zah]
  cases r with
  | nil =>
   simp [zah] at hc ⊢
   exact hc
  | cons e r =>
   rw [List.getLast?_cons_cons] at hc
   rw [ih hc]
   simp
theorem zdq (hB:2 ≤ B) (n:Nat):(rep B n).getLast? ≠ some 0:=by
 induction n using Nat.strongRecOn with
 | ind n ih =>
  by_cases h:n = 0
  ·subst h; simp [z36]
  ·rw [z6p hB (by omega)]
   have ih:=ih (n / B) (Nat.div_lt_self (by omega) (by omega))
   by_cases h0:n / B = 0
   ·rw [h0,z36]
    have:n % B = n:=Nat.mod_eq_of_lt ((Nat.div_eq_zero_iff_lt (by omega)).1 h0)
    simp [this,h]
   ·have hp:0 < n / B:=Nat.pos_of_ne_zero h0
    rw [z6p hB hp] at ih ⊢
    rw [List.getLast?_cons_cons]
    exact ih
end
def z2m (zs:List Nat):Nat → Nat
 | 0 => 0
 | k + 1 => if zs[k]? = some 0 then z2m zs k else k + 1
theorem zm9 (zs:List Nat) (k:Nat):z2m zs k ≤ k:=by
 induction k with
 | zero => simp [z2m]
 | succ k ih => simp only [z2m]; split <;> omega
theorem zk3 (l:List Nat) (z:Nat):zah (l ++ [z]) = if z = 0 then zah l else l ++ [z]:=by
 induction l with
 | nil => simp [zah]
 | cons d r ih =>
  simp only [List.cons_append,zah,ih]
  split
  ·rfl
  ·simp
theorem z4u (zs:List Nat) (k:Nat) (hk:k ≤ zs.length):zs.take (z2m zs k) = zah (zs.take k):=by
 induction k with
 | zero => simp [z2m,zah]
 | succ k ih =>
  have h:zs[k]? = some zs[k]:=List.getElem?_eq_getElem (by omega)
  have e:zs.take (k + 1) = zs.take k ++ [zs[k]]:=by rw [List.take_add_one,h]; rfl
  simp only [z2m]
  rw [e,zk3,h]
  split
  ·rename_i h0
   rw [ih (by omega),if_pos (by simpa using h0)]
  ·rename_i h0
   rw [if_neg (by simpa using h0),e]
end
section
def dg (l:List Nat) (k:Nat):Nat:=(l[k]?).getD 0
theorem z0o {l:List Nat} {k z:Nat} (h:l[k]? = some z):dg l k = z:=by simp [dg,h]
theorem z2n {l:List Nat} {k:Nat} (h:l.length ≤ k):dg l k = 0:=by simp [dg,List.getElem?_eq_none h]
theorem zk4 {B:Nat} (hB:0 < B) {l:List Nat} (hl:∀ d ∈ l,d < B) (k:Nat):dg l k < B:=by
 unfold dg
 cases h:l[k]? with
 | none => simpa using hB
 | some z => exact hl z (List.mem_of_getElem? h)
theorem z1s {B:Nat} (l:List Nat) (k:Nat):val B (l.take (k + 1)) = val B (l.take k) + B ^ k * dg l k:=by
 by_cases h:k < l.length
 ·have e:l[k]? = some l[k]:=List.getElem?_eq_getElem h
  rw [z3k e,z0o e]
 ·rw [z2n (by omega),List.take_of_length_le (by omega),List.take_of_length_le (by omega)]
  simp
theorem z1b {B:Nat} (l:List Nat) (k:Nat):val B (l.drop k) = dg l k + B * val B (l.drop (k + 1)):=by
 by_cases h:k < l.length
 ·have e:l[k]? = some l[k]:=List.getElem?_eq_getElem h
  rw [z7b e,z0o e]
 ·rw [z2n (by omega),List.drop_eq_nil_of_le (by omega),List.drop_eq_nil_of_le (by omega)]
  simp [val]
theorem zk5 {B:Nat} {o:List Nat} {i c X s:Nat} (hl:o.length = i) (h:val B o + B ^ i * c = X):val B (o ++ [(c + s) % B]) + B ^ (i + 1) * ((c + s) / B) = X + B ^ i * s:=by
 rw [z57,hl,← h,Nat.pow_succ]
 have e:=Nat.mod_add_div (c + s) B
 have e2:=congrArg (B ^ i * ·) e
 simp only [Nat.mul_add] at e2 ⊢
 rw [Nat.mul_assoc]
 omega
theorem zma {B i c V:Nat} (_hB:0 < B) {o:List Nat} (h:val B o + B ^ i * c = V) (hV:V < B ^ i):c = 0:=by
 rcases Nat.eq_zero_or_pos c with h0 | h0
 ·exact h0
 ·have:B ^ i * 1 ≤ B ^ i * c:=Nat.mul_le_mul_left _ h0
  omega
theorem zhi {B:Nat} {o:List Nat} {i c X Y x y:Nat} (hl:o.length = i) (h:val B o + Y = X + B ^ i * c) (d c':Nat) (hd:x + B * c' = d + y + c) :
  val B (o ++ [d]) + (Y + B ^ i * y) = (X + B ^ i * x) + B ^ (i + 1) * c':=by
 rw [z57,hl,Nat.pow_succ]
 have e2:=congrArg (B ^ i * ·) hd
 simp only [Nat.mul_add] at e2 ⊢
 rw [Nat.mul_assoc]
 omega
theorem zmb {V n q r d:Nat} (h:V = q * n + r):10 * V + d = (10 * q + (10 * r + d) / n) * n + (10 * r + d) % n:=by
 have e:=Nat.div_add_mod (10 * r + d) n
 have e2:(10 * q + (10 * r + d) / n) * n = 10 * (q * n) + n * ((10 * r + d) / n):=by
  rw [Nat.add_mul,Nat.mul_assoc,Nat.mul_comm n]
 omega
theorem zhj {B:Nat} (l:List Nat) (k z:Nat) (h:k < l.length):val B (l.set k z) + B ^ k * dg l k = val B l + B ^ k * z:=by
 induction l generalizing k with
 | nil => simp at h
 | cons d r ih =>
  cases k with
  | zero => simp [val,dg]; omega
  | succ k =>
   have ih:=ih k (by simpa using h)
   have e:=congrArg (B * ·) ih
   simp only [List.set_cons_succ,val,Nat.pow_succ,Nat.mul_add] at e ⊢
   rw [show dg (d :: r) (k + 1) = dg r k by simp [dg]]
   have e1:B ^ k * B * dg r k = B * (B ^ k * dg r k):=by rw [Nat.mul_comm (B ^ k) B,Nat.mul_assoc]
   have e2:B ^ k * B * z = B * (B ^ k * z):=by rw [Nat.mul_comm (B ^ k) B,Nat.mul_assoc]
   omega
theorem z83 {B:Nat} (hB:0 < B) {l:List Nat} {k:Nat} (h:val B l < B ^ k):∀ j,k ≤ j → j < l.length → dg l j = 0:=by
 induction l generalizing k with
 | nil => intro j _ hj; simp at hj
 | cons d r ih =>
  intro j hk hj
  cases k with
  | zero =>
   have h0:val B (d :: r) = 0:=by simpa using h
   simp only [val] at h0
   cases j with
   | zero => simp [dg]; omega
   | succ j =>
    have:val B r = 0:=by
     have h1:B * val B r = 0:=by omega
     rcases Nat.mul_eq_zero.1 h1 with h2 | h2
     ·omega
     ·exact h2
    have:=ih (k:=0) (by simpa using this) j (Nat.zero_le _) (by simpa using hj)
    simpa [dg] using this
  | succ k =>
   cases j with
   | zero => omega
   | succ j =>
    simp only [val,Nat.pow_succ] at h
    have hr:val B r < B ^ k:=by
     have:B * val B r < B * B ^ k:=by rw [Nat.mul_comm B (B ^ k)]; omega
     exact Nat.lt_of_mul_lt_mul_left this
    have:=ih hr j (by omega) (by simpa using hj)
    simpa [dg] using this
theorem z7c {B:Nat} (hB:2 ≤ B) {n m:Nat} (h:(rep B n).length < (rep B m).length):n < m:=by
 rcases Nat.lt_or_ge n m with h1 | h1
 ·exact h1
 ·exfalso
  have:(rep B m).length ≤ (rep B n).length:=z0f hB m _ (Nat.lt_of_le_of_lt h1 (z0y hB n))
  omega
theorem zd0 {B:Nat} {k:Nat} {l m:List Nat} (_hB:0 < B) (hl:∀ d ∈ l,d < B) (hx:dg l k < dg m k) (hk:k < l.length) (_hm:k < m.length) (ht:val B (l.drop (k + 1)) = val B (m.drop (k + 1))) (hlen:l.length = m.length):val B l < val B m:=by
 have e1:val B l = val B (l.take (k + 1)) + B ^ (k + 1) * val B (l.drop (k + 1)):=by
  conv => lhs; rw [← List.take_append_drop (k + 1) l]
  rw [z3d,List.length_take,Nat.min_eq_left (by omega)]
 have e2:val B m = val B (m.take (k + 1)) + B ^ (k + 1) * val B (m.drop (k + 1)):=by
  conv => lhs; rw [← List.take_append_drop (k + 1) m]
  rw [z3d,List.length_take,Nat.min_eq_left (by omega)]
 rw [e1,e2,ht,z1s,z1s]
 have h1:val B (l.take k) < B ^ (l.take k).length:=z1k _ (fun d hd => hl d (List.mem_of_mem_take hd))
 rw [List.length_take,Nat.min_eq_left (by omega)] at h1
 have h2:B ^ k * (dg l k + 1) ≤ B ^ k * dg m k:=Nat.mul_le_mul_left _ hx
 rw [Nat.mul_add] at h2
 omega
theorem z3x {B:Nat} {o xs ys:List Nat} {i c:Nat} (hl:o.length = i) (h:val B o + B ^ i * c = val B (xs.take i) + val B (ys.take i)) (s:Nat) (hs:s = dg xs i + dg ys i) :
  val B (o ++ [(c + s) % B]) + B ^ (i + 1) * ((c + s) / B) = val B (xs.take (i + 1)) + val B (ys.take (i + 1)):=by
 subst hs
 rw [zk5 hl h,z1s xs,z1s ys,Nat.mul_add]
 omega
theorem zmc {B:Nat} (hB:2 ≤ B) {o xs ys:List Nat} {c:Nat} (hx:∀ z ∈ xs,z < B) (hy:∀ z ∈ ys,z < B) (hle:ys.length ≤ xs.length) (h:val B o + B ^ (xs.length + 1) * c = val B (xs.take (xs.length + 1)) + val B (ys.take (xs.length + 1))):val B o = val B xs + val B ys:=by
 rw [List.take_of_length_le (by omega),List.take_of_length_le (by omega)] at h
 have h1:=z1k xs hx
 have h2:=z1k ys hy
 have h3:B ^ ys.length ≤ B ^ xs.length:=Nat.pow_le_pow_right (by omega) hle
 have h4:B ^ (xs.length + 1) = B ^ xs.length * B:=Nat.pow_succ _ _
 have:c = 0:=zma (by omega) h (by rw [h4]; generalize B ^ xs.length = P at *; have:P * 2 ≤ P * B:=Nat.mul_le_mul_left _ hB; omega)
 subst this
 simpa using h
theorem z58 {B:Nat} {o xs ys:List Nat} {i c:Nat} (hl:o.length = i) (h:val B o + val B (ys.take i) = val B (xs.take i) + B ^ i * c) (d c':Nat) (hd:dg xs i + B * c' = d + dg ys i + c) :
  val B (o ++ [d]) + val B (ys.take (i + 1)) = val B (xs.take (i + 1)) + B ^ (i + 1) * c':=by
 rw [z1s xs,z1s ys]
 exact zhi hl h d c' hd
theorem zmd {B:Nat} {o:List Nat} {n m c L:Nat} (ho:∀ z ∈ o,z < B) (hol:o.length = L) (hge:m ≤ n) (h:val B o + m = n + B ^ L * c):val B o = n - m:=by
 have h1:=z1k o ho
 rw [hol] at h1
 rcases Nat.eq_zero_or_pos c with h0 | h0
 ·subst h0; omega
 ·have:B ^ L * 1 ≤ B ^ L * c:=Nat.mul_le_mul_left _ h0
  omega
end
section
def cmpE (f g:Int → Int):Nat → Int
 | 0 => 0
 | n + 1 => if f (n + 1:Nat) = g (n + 1:Nat) then cmpE f g n else cmpI (f (n + 1:Nat)) (g (n + 1:Nat))
theorem zfc (x:Int):cmpI x x = 0:=by simp [cmpI]
theorem z6q {x y:Int}:cmpI x y = 0 ↔ x = y:=by
 unfold cmpI
 split
 ·omega
 ·split <;> omega
theorem zdr (x y:Int):cmpI y x = - cmpI x y:=by
 unfold cmpI
 split
 ·split
  ·omega
  ·omega
 ·split <;> simp
theorem z3y {x y:Int}:cmpI x y = 1 ↔ y < x:=by
 unfold cmpI
 split
 ·omega
 ·split <;> omega
theorem z2w {x y:Int}:cmpI x y = -1 ↔ x < y:=by
 unfold cmpI
 split
 ·omega
 ·split <;> omega
theorem z4p (x y:Int):cmpI x y = -1 ∨ cmpI x y = 0 ∨ cmpI x y = 1:=by
 unfold cmpI
 split
 ·simp
 ·split <;> simp
theorem zk6 (f g:Int → Int) (n:Nat):cmpE f g n = -1 ∨ cmpE f g n = 0 ∨ cmpE f g n = 1:=by
 induction n with
 | zero => simp [cmpE]
 | succ n ih =>
  simp only [cmpE]
  split
  ·exact ih
  ·exact z4p _ _
theorem zqz (f g:Int → Int) (n:Nat):cmpE g f n = - cmpE f g n:=by
 induction n with
 | zero => simp [cmpE]
 | succ n ih =>
  simp only [cmpE]
  by_cases h:f ((n + 1:Nat):Int) = g ((n + 1:Nat):Int)
  ·rw [if_pos h,if_pos h.symm]
   exact ih
  ·rw [if_neg h,if_neg (fun e => h e.symm)]
   exact zdr _ _
theorem zme {f g:Int → Int} {n:Nat}:cmpE f g n = 0 ↔ ∀ k:Nat,1 ≤ k → k ≤ n → f (k:Nat) = g (k:Nat):=by
 induction n with
 | zero =>
  simp only [cmpE,true_iff]
  intro k h1 h2
  omega
 | succ n ih =>
  simp only [cmpE]
  by_cases h:f ((n + 1:Nat):Int) = g ((n + 1:Nat):Int)
  ·rw [if_pos h,ih]
   constructor
   ·intro h2 k h3 h4
    by_cases hk:k = n + 1
    ·subst hk; exact h
    ·exact h2 k h3 (by omega)
   ·intro h2 k h3 h4
    exact h2 k h3 (by omega)
  ·rw [if_neg h,z6q]
   constructor
   ·intro e; exact absurd e h
   ·intro h2; exact h2 (n + 1) (by omega) (Nat.le_refl _)
theorem zk7 {f g k:Int → Int} {n:Nat} (h1:cmpE f g n = 1) (h2:cmpE g k n = 1):cmpE f k n = 1:=by
 induction n with
 | zero => simp [cmpE] at h1
 | succ n ih =>
  simp only [cmpE] at h1 h2 ⊢
  generalize f ((n + 1:Nat):Int) = a at *
  generalize g ((n + 1:Nat):Int) = b at *
  generalize k ((n + 1:Nat):Int) = c at *
  by_cases hab:a = b
  ·subst hab
   rw [if_pos rfl] at h1
   by_cases hbc:a = c
   ·subst hbc
    rw [if_pos rfl] at h2 ⊢
    exact ih h1 h2
   ·rw [if_neg hbc] at h2 ⊢
    exact h2
  ·rw [if_neg hab] at h1
   rw [z3y] at h1
   by_cases hbc:b = c
   ·subst hbc
    rw [if_neg hab,z3y]
    exact h1
   ·rw [if_neg hbc,z3y] at h2
    rw [if_neg (by omega),z3y]
    omega
theorem z0v {last:Int} {m:Mono} (h:z0a last m = true) {v:Int} (hv:v ≤ last):ex m v = 0:=by
 induction m generalizing last with
 | nil => rfl
 | cons x r ih =>
  simp only [z0a,Bool.and_eq_true,decide_eq_true_eq] at h
  rw [ex,if_neg (by omega)]
  exact ih h.2 (by omega)
theorem z59 {last:Int} {m:Mono} (h:z0a last m = true) {v:Int} (hv:200 < v):ex m v = 0:=by
 induction m generalizing last with
 | nil => rfl
 | cons x r ih =>
  simp only [z0a,Bool.and_eq_true,decide_eq_true_eq] at h
  rw [ex,if_neg (by omega)]
  exact ih h.2
theorem z2t {last:Int} {m:Mono} (h:z0a last m = true) (v:Int):0 ≤ ex m v ∧ ex m v ≤ 10000:=by
 induction m generalizing last with
 | nil => simp [ex]
 | cons x r ih =>
  simp only [z0a,Bool.and_eq_true,decide_eq_true_eq] at h
  rw [ex]
  split
  ·omega
  ·exact ih h.2
theorem zb1 {last:Int} {a b:Mono} (ha:z0a last a = true) (hb:z0a last b = true) (h:∀ v,ex a v = ex b v):a = b:=by
 induction a generalizing b last with
 | nil =>
  cases b with
  | nil => rfl
  | cons y b =>
   have:=h y.1
   simp only [z0a,Bool.and_eq_true,decide_eq_true_eq] at hb
   simp [ex] at this
   omega
 | cons x a ih =>
  cases b with
  | nil =>
   have:=h x.1
   simp only [z0a,Bool.and_eq_true,decide_eq_true_eq] at ha
   simp [ex] at this
   omega
  | cons y b =>
   simp only [z0a,Bool.and_eq_true,decide_eq_true_eq] at ha hb
   have h1:=h x.1
   have h2:=h y.1
   have e:x.1 = y.1:=by
    rcases Int.lt_trichotomy x.1 y.1 with g | g | g
    ·rw [ex,if_pos rfl,ex,if_neg (by omega),z0v hb.2 (by omega)] at h1
     omega
    ·exact g
    ·rw [ex,if_neg (by omega),z0v ha.2 (by omega),ex,if_pos rfl] at h2
     omega
   have e2:x.2 = y.2:=by
    rw [ex,if_pos rfl,ex,if_pos e.symm] at h1
    exact h1
   have:x = y:=Prod.ext e e2
   subst this
   congr 1
   refine ih ha.2 hb.2 (fun v => ?_)
   have:=h v
   rw [ex,ex] at this
   split at this
   ·rename_i hv
    rw [z0v ha.2 (by omega),z0v hb.2 (by omega)]
   ·exact this
theorem zin {a b:Mono} (ha:mayM a = true) (hb:mayM b = true) (h:∀ k:Nat,1 ≤ k → k ≤ 200 → ex a k = ex b k):a = b:=by
 refine zb1 ha hb (fun v => ?_)
 by_cases h1:v ≤ 0
 ·rw [z0v ha h1,z0v hb h1]
 ·by_cases h2:200 < v
  ·rw [z59 ha h2,z59 hb h2]
  ·have:=h v.toNat (by omega) (by omega)
   rwa [Int.toNat_of_nonneg (by omega)] at this
def cmpD (f g:Int → Int) (c:Int) (lo:Int):Nat → Int
 | 0 => c
 | n + 1 => if f (lo + (n + 1:Nat)) = g (lo + (n + 1:Nat)) then cmpD f g c lo n else cmpI (f (lo + (n + 1:Nat))) (g (lo + (n + 1:Nat)))
theorem z5t {f g f' g':Int → Int} {c lo:Int} {n:Nat} (hf:∀ v,lo < v → f v = f' v) (hg:∀ v,lo < v → g v = g' v):cmpD f g c lo n = cmpD f' g' c lo n:=by
 induction n with
 | zero => rfl
 | succ n ih =>
  simp only [cmpD]
  rw [hf _ (by omega),hg _ (by omega),ih]
theorem z4q (f g:Int → Int) (c lo:Int) (n:Nat):cmpD f g c lo (n + 1) = cmpD f g (if f (lo + 1) = g (lo + 1) then c else cmpI (f (lo + 1)) (g (lo + 1))) (lo + 1) n:=by
 induction n with
 | zero => simp [cmpD]
 | succ n ih =>
  rw [cmpD,ih]
  conv => rhs; rw [cmpD]
  rw [show lo + ((n + 1 + 1:Nat):Int) = lo + 1 + ((n + 1:Nat):Int) by omega]
theorem z5u {f g:Int → Int} {c lo:Int} (k n:Nat) (h:∀ v,lo < v → v ≤ lo + k → f v = g v):cmpD f g c lo (k + n) = cmpD f g c (lo + k) n:=by
 induction k generalizing lo with
 | zero => simp
 | succ k ih =>
  rw [show k + 1 + n = (k + n) + 1 by omega,z4q,if_pos (h _ (by omega) (by omega)),ih (fun v h1 h2 => h v (by omega) (by omega))]
  rw [show lo + 1 + (k:Int) = lo + ((k + 1:Nat):Int) by omega]
theorem zio {f g:Int → Int} {c lo:Int} (n:Nat) (h:∀ v,lo < v → v ≤ lo + n → f v = g v):cmpD f g c lo n = c:=by
 have:=z5u (f:=f) (g:=g) (c:=c) (lo:=lo) n 0 h
 simpa [cmpD] using this
theorem zmf (f g:Int → Int) (n:Nat):cmpD f g 0 0 n = cmpE f g n:=by
 induction n with
 | zero => rfl
 | succ n ih =>
  simp only [cmpD,cmpE,Int.zero_add,ih]
theorem z8r {last:Int} {b:Mono} (hb:z0a last b = true) (hl:last ≤ 200) (c:Int):cmpL (both [] b) c = cmpD (fun _ => 0) (ex b) c last (200 - last).toNat:=by
 induction b generalizing last c with
 | nil => rw [z8m]; exact (zio _ (fun v _ _ => rfl)).symm
 | cons y b ih =>
  simp only [z0a,Bool.and_eq_true,decide_eq_true_eq] at hb
  obtain ⟨⟨h1,h2,h3,h4⟩,hb⟩:=hb
  rw [z79,cmpL,ih hb (by omega)]
  simp only
  have e:(200 - last).toNat = (y.1 - 1 - last).toNat + ((200 - y.1).toNat + 1):=by omega
  rw [e,z5u _ _ (fun v g1 g2 => by
   rw [ex,if_neg (by omega),z0v hb (by omega)]),z4q]
  rw [show last + ((y.1 - 1 - last).toNat:Int) + 1 = y.1 by omega,ex,if_pos rfl]
  refine z5t (fun _ _ => rfl) (fun v hv => ?_)
  rw [ex,if_neg (by omega)]
theorem z87 {last:Int} {a:Mono} (ha:z0a last a = true) (hl:last ≤ 200) (c:Int):cmpL (both a []) c = cmpD (ex a) (fun _ => 0) c last (200 - last).toNat:=by
 induction a generalizing last c with
 | nil => rw [z8m]; exact (zio _ (fun v _ _ => rfl)).symm
 | cons y b ih =>
  simp only [z0a,Bool.and_eq_true,decide_eq_true_eq] at ha
  obtain ⟨⟨h1,h2,h3,h4⟩,hb⟩:=ha
  rw [z8n,cmpL,ih hb (by omega)]
  simp only
  have e:(200 - last).toNat = (y.1 - 1 - last).toNat + ((200 - y.1).toNat + 1):=by omega
  rw [e,z5u _ _ (fun v g1 g2 => by
   rw [ex,if_neg (by omega),z0v hb (by omega)]),z4q]
  rw [show last + ((y.1 - 1 - last).toNat:Int) + 1 = y.1 by omega,ex,if_pos rfl]
  refine z5t (fun v hv => ?_) (fun _ _ => rfl)
  rw [ex,if_neg (by omega)]
theorem zmg {last:Int} {a b:Mono} (ha:z0a last a = true) (hb:z0a last b = true) (hl:last ≤ 200) (c:Int):cmpL (both a b) c = cmpD (ex a) (ex b) c last (200 - last).toNat:=by
 generalize hn:a.length + b.length = n
 induction n using Nat.strongRecOn generalizing a b last c with
 | ind n ih =>
 cases a with
 | nil => exact z8r hb hl c
 | cons x a =>
  cases b with
  | nil => exact z87 ha hl c
  | cons y b =>
   have hA:=ha
   have hB:=hb
   simp only [z0a,Bool.and_eq_true,decide_eq_true_eq] at ha hb
   obtain ⟨⟨a1,a2,a3,a4⟩,ha⟩:=ha
   obtain ⟨⟨b1,b2,b3,b4⟩,hb⟩:=hb
   simp only [List.length_cons] at hn
   rw [z8o]
   split
   ·rename_i hlt
    have hb':z0a x.1 (y :: b) = true:=by simp only [z0a,Bool.and_eq_true,decide_eq_true_eq]; exact ⟨⟨hlt,b2,b3,b4⟩,hb⟩
    rw [cmpL,ih _ (by simp only [List.length_cons]; omega) ha hb' (by omega) _ rfl]
    have e:(200 - last).toNat = (x.1 - 1 - last).toNat + ((200 - x.1).toNat + 1):=by omega
    rw [e,z5u _ _ (fun v g1 g2 => by
     rw [ex,if_neg (by omega),z0v ha (by omega),z0v hb' (by omega)]),z4q]
    rw [show last + ((x.1 - 1 - last).toNat:Int) + 1 = x.1 by omega]
    rw [show ex (x :: a) x.1 = x.2 by rw [ex,if_pos rfl],z0v hb' (Int.le_refl _)]
    refine z5t (fun v hv => ?_) (fun v hv => rfl)
    rw [ex,if_neg (by omega)]
   ·split
    ·rename_i hnlt hlt
     have ha':z0a y.1 (x :: a) = true:=by simp only [z0a,Bool.and_eq_true,decide_eq_true_eq]; exact ⟨⟨hlt,a2,a3,a4⟩,ha⟩
     rw [cmpL,ih _ (by simp only [List.length_cons]; omega) ha' hb (by omega) _ rfl]
     have e:(200 - last).toNat = (y.1 - 1 - last).toNat + ((200 - y.1).toNat + 1):=by omega
     rw [e,z5u _ _ (fun v g1 g2 => by
      rw [z0v ha' (by omega),ex,if_neg (by omega),z0v hb (by omega)]),z4q]
     rw [show last + ((y.1 - 1 - last).toNat:Int) + 1 = y.1 by omega]
     rw [show ex (y :: b) y.1 = y.2 by rw [ex,if_pos rfl],z0v ha' (Int.le_refl _)]
     refine z5t (fun v hv => rfl) (fun v hv => ?_)
     rw [ex,if_neg (by omega)]
    ·rename_i h1 h2
     have hxy:x.1 = y.1:=by omega
     rw [hxy] at ha
     rw [cmpL,ih _ (by omega) ha hb (by omega) _ rfl]
     have e:(200 - last).toNat = (y.1 - 1 - last).toNat + ((200 - y.1).toNat + 1):=by omega
     rw [e,z5u _ _ (fun v g1 g2 => by
      rw [ex,if_neg (by omega),z0v ha (by omega),ex,if_neg (by omega),z0v hb (by omega)]),z4q]
     rw [show last + ((y.1 - 1 - last).toNat:Int) + 1 = y.1 by omega]
     rw [show ex (x :: a) y.1 = x.2 by rw [ex,if_pos hxy],show ex (y :: b) y.1 = y.2 by rw [ex,if_pos rfl]]
     refine z5t (fun v hv => ?_) (fun v hv => ?_)
     ·rw [ex,if_neg (by omega)]
     ·rw [ex,if_neg (by omega)]
theorem z2a {a b:Mono} (ha:mayM a = true) (hb:mayM b = true):z0e a b = cmpE (ex a) (ex b) 200:=by
 unfold z0e
 rw [zmg ha hb (by omega),← zmf]
 rfl
theorem z1n {a b:Mono} (ha:mayM a = true) (hb:mayM b = true):z0e a b = -1 ∨ z0e a b = 0 ∨ z0e a b = 1:=by
 rw [z2a ha hb]; exact zk6 _ _ _
theorem z6r {a b:Mono} (ha:mayM a = true) (hb:mayM b = true):z0e b a = - z0e a b:=by
 rw [z2a ha hb,z2a hb ha]; exact zqz _ _ _
theorem z28 {a b:Mono} (ha:mayM a = true) (hb:mayM b = true):z0e a b = 0 ↔ a = b:=by
 rw [z2a ha hb,zme]
 constructor
 ·intro h
  exact zin ha hb (fun k h1 h2 => h k h1 h2)
 ·rintro rfl; intro _ _ _; rfl
theorem z3z {a b c:Mono} (ha:mayM a = true) (hb:mayM b = true) (hc:mayM c = true) (h1:z0e a b = 1) (h2:z0e b c = 1):z0e a c = 1:=by
 rw [z2a ha hb] at h1
 rw [z2a hb hc] at h2
 rw [z2a ha hc]
 exact zk7 h1 h2
end
section
abbrev PZ:=List (Int × Mono)
def cf:PZ → Mono → Int
 | [],_ => 0
 | t :: r,m => (if t.2 = m then t.1 else 0) + cf r m
theorem zfd (p q:PZ) (m:Mono):cf (p ++ q) m = cf p m + cf q m:=by
 induction p with
 | nil => simp [cf]
 | cons t r ih => simp only [List.cons_append,cf,ih]; omega
theorem zmh {p:PZ} {m:Mono} (h:∀ t ∈ p,t.2 ≠ m):cf p m = 0:=by
 induction p with
 | nil => rfl
 | cons t r ih =>
  rw [cf,if_neg (h t (by simp)),ih (fun u hu => h u (by simp [hu]))]
  rfl
theorem zvi {p q:PZ} (h:p.Perm q) (m:Mono):cf p m = cf q m:=by
 induction h with
 | nil => rfl
 | cons _ _ ih => simp only [cf,ih]
 | swap _ _ _ => simp only [cf]; omega
 | trans _ _ h1 h2 => exact h1.trans h2
def z0k (p:PZ):Prop:=∀ t ∈ p,mayM t.2 = true
def canP (p:PZ):Prop:=(∀ t ∈ p,t.1 ≠ 0 ∧ mayM t.2 = true) ∧ p.Pairwise (fun a b => z0e a.2 b.2 = 1)
theorem canP.may {p:PZ} (h:canP p):z0k p:=fun t ht => (h.1 t ht).2
theorem z2u:canP []:=⟨fun t ht => by simp at ht,List.Pairwise.nil⟩
theorem canP.tail {t:Int × Mono} {p:PZ} (h:canP (t :: p)):canP p:=⟨fun u hu => h.1 u (by simp [hu]),(List.pairwise_cons.1 h.2).2⟩
theorem canP.head {t:Int × Mono} {p:PZ} (h:canP (t :: p)):∀ u ∈ p,z0e t.2 u.2 = 1:=(List.pairwise_cons.1 h.2).1
theorem z3l (m:Mono) (h:mayM m = true):z0e m m = 0:=(z28 h h).2 rfl
theorem canP.cf_head {t:Int × Mono} {p:PZ} (h:canP (t :: p)):cf (t :: p) t.2 = t.1:=by
 rw [cf,if_pos rfl,zmh,Int.add_zero]
 intro u hu e
 have h1:=h.head u hu
 rw [e,z3l _ (h.1 t (by simp)).2] at h1
 omega
theorem canP.cf_mem {p:PZ} (h:canP p) {t:Int × Mono} (ht:t ∈ p):cf p t.2 = t.1:=by
 induction p with
 | nil => simp at ht
 | cons u r ih =>
  rcases List.mem_cons.1 ht with rfl | ht
  ·exact h.cf_head
  ·rw [cf,if_neg,ih h.tail ht]
   ·omega
   ·intro e
    have h1:=h.head t ht
    rw [e,z3l _ (h.1 t (by simp [ht])).2] at h1
    omega
theorem canP.mem_of_cf {p:PZ} {m:Mono} (hc:cf p m ≠ 0):∃ t ∈ p,t.2 = m:=by
 by_cases h:∃ t ∈ p,t.2 = m
 ·exact h
 ·exact absurd (zmh (fun t ht e => h ⟨t,ht,e⟩)) hc
theorem zds {p q:PZ} (hp:canP p) (hq:canP q) (h:∀ m,mayM m = true → cf p m = cf q m):p = q:=by
 induction p generalizing q with
 | nil =>
  cases q with
  | nil => rfl
  | cons u q =>
   have:=h u.2 (hq.1 u (by simp)).2
   rw [hq.cf_head] at this
   exact absurd this.symm (hq.1 u (by simp)).1
 | cons t p ih =>
  cases q with
  | nil =>
   have:=h t.2 (hp.1 t (by simp)).2
   rw [hp.cf_head] at this
   exact absurd this (hp.1 t (by simp)).1
  | cons u q =>
   have ht:=hp.1 t (by simp)
   have hu:=hq.1 u (by simp)
   have e1:=h t.2 ht.2
   have e2:=h u.2 hu.2
   rw [hp.cf_head] at e1
   rw [hq.cf_head] at e2
   have e:t.2 = u.2:=by
    rcases z1n ht.2 hu.2 with g | g | g
    ·exfalso
     obtain ⟨s,hs,hse⟩:=canP.mem_of_cf (p:=t :: p) (m:=u.2) (by rw [e2]; exact hu.1)
     rcases List.mem_cons.1 hs with rfl | hs
     ·rw [hse,z3l _ hu.2] at g; omega
     ·have:=hp.head s hs
      rw [hse] at this
      omega
    ·exact (z28 ht.2 hu.2).1 g
    ·exfalso
     obtain ⟨s,hs,hse⟩:=canP.mem_of_cf (p:=u :: q) (m:=t.2) (by rw [← e1]; exact ht.1)
     rcases List.mem_cons.1 hs with rfl | hs
     ·rw [hse,z3l _ ht.2] at g; omega
     ·have:=hq.head s hs
      rw [hse,z6r ht.2 hu.2] at this
      omega
   have e3:t.1 = u.1:=by
    have:=hq.cf_head
    rw [← e] at this
    omega
   have:t = u:=Prod.ext e3 e
   subst this
   congr 1
   refine ih hp.tail hq.tail (fun m hm => ?_)
   have:=h m hm
   simp only [cf] at this
   omega
def putP:PZ → Int → Mono → PZ
 | [],c,m => if c = 0 then [] else [(c,m)]
 | t :: r,c,m => if z0e t.2 m = 1 then t :: putP r c m else if z0e t.2 m = 0 then (if c + t.1 = 0 then r else (c + t.1,m) :: r) else if c = 0 then t :: r else (c,m) :: t :: r
theorem zip {p:PZ} {c:Int} {m:Mono} {t:Int × Mono} (h:t ∈ putP p c m):t ∈ p ∨ t.2 = m:=by
 induction p with
 | nil =>
  simp only [putP] at h
  split at h
  ·simp at h
  ·right; rw [List.mem_singleton.1 h]
 | cons u r ih =>
  simp only [putP] at h
  split at h
  ·rcases List.mem_cons.1 h with rfl | h
   ·simp
   ·rcases ih h with h | h
    ·simp [h]
    ·exact .inr h
  ·split at h
   ·split at h
    ·simp [h]
    ·rcases List.mem_cons.1 h with rfl | h
     ·exact .inr rfl
     ·simp [h]
   ·split at h
    ·exact .inl h
    ·rcases List.mem_cons.1 h with rfl | h
     ·exact .inr rfl
     ·exact .inl h
theorem zr0 {p:PZ} (hp:canP p) (c:Int) {m:Mono} (hm:mayM m = true):canP (putP p c m) ∧ ∀ m',cf (putP p c m) m' = cf p m' + if m = m' then c else 0:=by
 induction p with
 | nil =>
  simp only [putP]
  split
  ·rename_i h0
   subst h0
   exact ⟨z2u,fun m' => by simp [cf]⟩
  ·rename_i h0
   exact ⟨⟨fun t ht => by rw [List.mem_singleton.1 ht]; exact ⟨h0,hm⟩,List.pairwise_singleton _ _⟩,fun m' => by simp [cf]⟩
 | cons t r ih =>
  obtain ⟨ih1,ih2⟩:=ih hp.tail
  have ht:=hp.1 t (by simp)
  simp only [putP]
  split
  ·rename_i h1
   refine ⟨⟨fun u hu => ?_,List.pairwise_cons.2 ⟨fun u hu => ?_,ih1.2⟩⟩,fun m' => ?_⟩
   ·rcases List.mem_cons.1 hu with rfl | hu
    ·exact ht
    ·exact ih1.1 u hu
   ·rcases zip hu with hu | hu
    ·exact hp.head u hu
    ·rw [hu]; exact h1
   ·simp only [cf,ih2]; omega
  ·rename_i h1
   split
   ·rename_i h2
    have e:=(z28 ht.2 hm).1 h2
    split
    ·rename_i h3
     refine ⟨hp.tail,fun m' => ?_⟩
     simp only [cf,e]
     split <;> omega
    ·rename_i h3
     refine ⟨⟨fun u hu => ?_,List.pairwise_cons.2 ⟨fun u hu => ?_,hp.tail.2⟩⟩,fun m' => ?_⟩
     ·rcases List.mem_cons.1 hu with rfl | hu
      ·exact ⟨h3,hm⟩
      ·exact hp.tail.1 u hu
     ·have:=hp.head u hu
      rw [e] at this
      exact this
     ·simp only [cf,e]
      split <;> omega
   ·rename_i h2
    have h3:z0e m t.2 = 1:=by
     have:=z6r ht.2 hm
     rcases z1n ht.2 hm with g | g | g <;> omega
    split
    ·rename_i h4
     subst h4
     exact ⟨hp,fun m' => by split <;> omega⟩
    ·rename_i h4
     refine ⟨⟨fun u hu => ?_,List.pairwise_cons.2 ⟨fun u hu => ?_,hp.2⟩⟩,fun m' => ?_⟩
     ·rcases List.mem_cons.1 hu with rfl | hu
      ·exact ⟨h4,hm⟩
      ·exact hp.1 u hu
     ·rcases List.mem_cons.1 hu with rfl | hu
      ·exact h3
      ·exact z3z hm ht.2 (hp.1 u (by simp [hu])).2 h3 (hp.head u hu)
     ·simp only [cf]; omega
def addP (p l:PZ):PZ:=l.foldl (fun p t => putP p t.1 t.2) p
def z1t (l:PZ):PZ:=addP [] l
theorem zam {p:PZ} (hp:canP p) {l:PZ} (hl:z0k l):canP (addP p l) ∧ ∀ m,cf (addP p l) m = cf p m + cf l m:=by
 induction l generalizing p with
 | nil => exact ⟨hp,fun m => by simp [addP,cf]⟩
 | cons t r ih =>
  obtain ⟨h1,h2⟩:=zr0 hp t.1 (hl t (by simp))
  obtain ⟨h3,h4⟩:=ih h1 (fun u hu => hl u (by simp [hu]))
  refine ⟨h3,fun m => ?_⟩
  show cf (addP (putP p t.1 t.2) r) m = _
  rw [h4,h2]
  simp only [cf]
  omega
theorem z8s {l:PZ} (hl:z0k l):canP (z1t l):=(zam z2u hl).1
theorem zdt {l:PZ} (hl:z0k l) (m:Mono):cf (z1t l) m = cf l m:=by
 have:=(zam z2u hl).2 m
 simp only [cf] at this
 unfold z1t
 omega
theorem z5a {p:PZ} (h:canP p):z1t p = p:=zds (z8s h.may) h (fun m _ => zdt h.may m)
end
section
def degP (p:PZ) (v:Int):Int:=p.foldl (fun d t => max d (ex t.2 v)) 0
def z0t:PZ → Int
 | [] => 0
 | t :: _ => z1j t.2
theorem z4v (x y:Int × Int) (r:Mono):z1j (x :: y :: r) = z1j (y :: r):=by
 simp [z1j,List.getLast?_cons_cons]
theorem z5b {last:Int} {m:Mono} (h:z0a last m = true) (hne:m ≠ []):last < z1j m ∧ z1j m ≤ 200 ∧ 1 ≤ ex m (z1j m):=by
 induction m generalizing last with
 | nil => exact absurd rfl hne
 | cons x r ih =>
  simp only [z0a,Bool.and_eq_true,decide_eq_true_eq] at h
  cases r with
  | nil =>
   have e:z1j [x] = x.1:=rfl
   rw [e,ex,if_pos rfl]
   omega
  | cons y r =>
   have:=ih h.2 (by simp)
   rw [z4v,ex,if_neg (by omega)]
   omega
theorem z88 {last:Int} {m:Mono} (h:z0a last m = true) {v:Int} (hv:z1j m < v) (hl:last < v):ex m v = 0:=by
 induction m generalizing last with
 | nil => rfl
 | cons x r ih =>
  simp only [z0a,Bool.and_eq_true,decide_eq_true_eq] at h
  cases r with
  | nil =>
   have e:z1j [x] = x.1:=rfl
   rw [e] at hv
   rw [ex,if_neg (by omega)]
   rfl
  | cons y r =>
   rw [z4v] at hv
   have:=z5b h.2 (by simp)
   rw [ex,if_neg (by omega)]
   exact ih h.2 hv (by omega)
theorem z89 {m:Mono} (h:mayM m = true):0 ≤ z1j m ∧ z1j m ≤ 200:=by
 by_cases hne:m = []
 ·subst hne; simp [z1j]
 ·have:=z5b h hne; omega
theorem zr1 {f g:Int → Int} {n k:Nat} (hk:1 ≤ k) (hkn:k ≤ n) (hab:∀ j:Nat,k < j → j ≤ n → f j = g j) (hlt:f (k:Nat) < g (k:Nat)):cmpE f g n = -1:=by
 induction n with
 | zero => omega
 | succ n ih =>
  simp only [cmpE]
  by_cases h:k = n + 1
  ·subst h
   rw [if_neg (by omega),z2w]
   exact hlt
  ·rw [if_pos (hab (n + 1) (by omega) (Nat.le_refl _))]
   exact ih (by omega) (fun j h1 h2 => hab j h1 (by omega))
theorem zk8 {a b:Mono} (ha:mayM a = true) (hb:mayM b = true) (h:z0e a b = 1):z1j b ≤ z1j a:=by
 rcases Int.lt_or_le (z1j a) (z1j b) with hlt | hge
 ·exfalso
  have hra:=z89 ha
  have hbn:b ≠ []:=fun e => by
   rw [e] at hlt
   have:z1j ([]:Mono) = 0:=rfl
   omega
  obtain ⟨h1,h2,h3⟩:=z5b hb hbn
  rw [z2a ha hb] at h
  have:cmpE (ex a) (ex b) 200 = -1:=by
   refine zr1 (k:=(z1j b).toNat) (by omega) (by omega) (fun j h4 h5 => ?_) ?_
   ·rw [z88 ha (v:=(j:Int)) (by omega) (by omega),z88 hb (v:=(j:Int)) (by omega) (by omega)]
   ·rw [show (((z1j b).toNat:Nat):Int) = z1j b by omega,z88 ha (v:=z1j b) (by omega) (by omega)]
    omega
  omega
 ·exact hge
theorem z6s {α:Type} (f:α → Int) (l:List α) (c:Int):c ≤ l.foldl (fun d t => max d (f t)) c:=by
 induction l generalizing c with
 | nil => simp
 | cons x r ih =>
  rw [List.foldl_cons]
  exact Int.le_trans (by omega) (ih _)
theorem zdu {α:Type} (f:α → Int) (l:List α) (c:Int):∀ t ∈ l,f t ≤ l.foldl (fun d t => max d (f t)) c:=by
 induction l generalizing c with
 | nil => intro t ht; simp at ht
 | cons x r ih =>
  intro t ht
  rw [List.foldl_cons]
  rcases List.mem_cons.1 ht with rfl | ht
  ·exact Int.le_trans (by omega) (z6s f r _)
  ·exact ih _ t ht
theorem za0 {α:Type} (f:α → Int) (l:List α) (c u:Int) (hc:c ≤ u) (h:∀ t ∈ l,f t ≤ u):l.foldl (fun d t => max d (f t)) c ≤ u:=by
 induction l generalizing c with
 | nil => simpa using hc
 | cons x r ih =>
  rw [List.foldl_cons]
  exact ih _ (by have:=h x (by simp); omega) (fun t ht => h t (by simp [ht]))
theorem z66 {p:PZ} (h:canP p):0 ≤ z0t p ∧ z0t p ≤ 200:=by
 cases p with
 | nil => simp [z0t]
 | cons t r => exact z89 (h.1 t (by simp)).2
theorem z18 {p:PZ} (h:z0k p) (v:Int):0 ≤ degP p v ∧ degP p v ≤ 10000 :=
 ⟨z6s _ _ _,za0 _ _ _ _ (by omega) (fun t ht => (z2t (h t ht) v).2)⟩
theorem z1u {p:PZ} {t:Int × Mono} (ht:t ∈ p) (v:Int):ex t.2 v ≤ degP p v:=zdu (fun t:Int × Mono => ex t.2 v) p 0 t ht
end
section
abbrev B32:Nat:=4294967296
theorem z00:2 ≤ B32:=by decide
def valI (r:RInt):Int:=if r.neg then -(val B32 r.mag:Int) else (val B32 r.mag:Int)
def ofI (z:Int):RInt:=⟨decide (z < 0),rep B32 z.natAbs⟩
def okI (r:RInt):Prop:=∀ z ∈ r.mag,z < B32
def mayI (r:RInt):Bool:=match r.mag.getLast? with
 | none => !r.neg
 | some z => decide (z ≠ 0)
def z1l (z:Int):Int:=cmpI z 0
theorem z0p (z:Int):valI (ofI z) = z:=by
 unfold valI ofI
 simp only
 rw [z0d z00]
 by_cases h:z < 0
 ·simp [h]; omega
 ·simp [h]; omega
theorem zmi {r:RInt} (h:mayI r = true):r.mag.getLast? ≠ some 0:=by
 unfold mayI at h
 intro e
 rw [e] at h
 simp at h
theorem zr2 {r:RInt} (hok:okI r) (h:mayI r = true):ofI (valI r) = r:=by
 have hl:=zmi h
 have hr:=zvh z00 r.mag hok hl
 obtain ⟨ng,mg⟩:=r
 simp only at hl hr
 unfold mayI at h
 simp only at h
 unfold ofI valI
 simp only
 cases ng with
 | false =>
  simp [hr]
 | true =>
  have hpos:0 < val B32 mg:=by
   rcases Nat.eq_zero_or_pos (val B32 mg) with h0 | h0
   ·exfalso
    rw [h0,z36] at hr
    rw [← hr] at h
    simp at h
   ·exact h0
  simp [hr]
  omega
theorem zr3 (z:Int):mayI (ofI z) = true:=by
 unfold mayI ofI
 simp only
 cases h:(rep B32 z.natAbs).getLast? with
 | none =>
  have h0:rep B32 z.natAbs = []:=List.getLast?_eq_none_iff.1 h
  rw [z2d z00] at h0
  simp
  omega
 | some x =>
  simp
  intro e
  subst e
  exact zdq z00 _ h
def toP (ts:List RTerm):PZ:=ts.map fun t => (valI t.c,t.m)
def ofP (p:PZ):List RTerm:=p.map fun t => ⟨ofI t.1,t.2⟩
def okT (ts:List RTerm):Prop:=∀ t ∈ ts,okI t.c
theorem z6t (p:PZ):toP (ofP p) = p:=by
 induction p with
 | nil => rfl
 | cons t r ih =>
  have e:toP (ofP (t :: r)) = (valI (ofI t.1),t.2) :: toP (ofP r):=rfl
  rw [e,ih,z0p]
def z2e (t:RTerm):Bool:=decide (val B32 t.c.mag ≠ 0) && mayI t.c && mayM t.m
def z4w:Option RTerm → List RTerm → Bool
 | _,[] => true
 | last,t :: r => z2e t && (match last with | none => true | some u => decide (0 < z4e u.m t.m)) && z4w (some t) r
def mayT (ts:List RTerm):Bool:=z4w none ts
theorem z5c {last:Option RTerm} {ts:List RTerm} (h:z4w last ts = true) :
  (∀ t ∈ ts,z2e t = true) ∧ (ts.Pairwise fun a b => z0e a.m b.m = 1) ∧ ∀ u,last = some u → mayM u.m = true → ∀ t ∈ ts,z0e u.m t.m = 1:=by
 induction ts generalizing last with
 | nil => exact ⟨fun t ht => by simp at ht,List.Pairwise.nil,fun u _ _ t ht => by simp at ht⟩
 | cons t r ih =>
  simp only [z4w,Bool.and_eq_true] at h
  obtain ⟨⟨h1,h2⟩,h3⟩:=h
  obtain ⟨i1,i2,i3⟩:=ih h3
  have hm:mayM t.m = true:=by
   simp only [z2e,Bool.and_eq_true] at h1
   exact h1.2
  have hmr:∀ u ∈ r,mayM u.m = true:=fun u hu => by
   have:=i1 u hu
   simp only [z2e,Bool.and_eq_true] at this
   exact this.2
  refine ⟨fun u hu => ?_,List.pairwise_cons.2 ⟨fun u hu => i3 t rfl hm u hu,i2⟩,fun u hu hum s hs => ?_⟩
  ·rcases List.mem_cons.1 hu with rfl | hu
   ·exact h1
   ·exact i1 u hu
  ·subst hu
   simp only [decide_eq_true_eq] at h2
   unfold z4e at h2
   rw [hum,hm] at h2
   simp only [Bool.and_self,if_true] at h2
   have h4:z0e u.m t.m = 1:=by rcases z1n hum hm with g | g | g <;> omega
   rcases List.mem_cons.1 hs with rfl | hs
   ·exact h4
   ·exact z3z hum hm (hmr s hs) h4 (i3 t rfl hm s hs)
theorem zr4 {ts:List RTerm} (h:mayT ts = true):canP (toP ts):=by
 obtain ⟨h1,h2,_⟩:=z5c h
 refine ⟨fun t ht => ?_,?_⟩
 ·obtain ⟨u,hu,rfl⟩:=List.mem_map.1 ht
  have:=h1 u hu
  simp only [z2e,Bool.and_eq_true,decide_eq_true_eq] at this
  refine ⟨?_,this.2⟩
  unfold valI
  simp only
  split <;> omega
 ·unfold toP
  rw [List.pairwise_map]
  exact h2
theorem zvj {ts:List RTerm} (hok:okT ts) (h:mayT ts = true):ofP (toP ts) = ts:=by
 have h1:=(z5c h).1
 clear h
 induction ts with
 | nil => rfl
 | cons t r ih =>
  have h2:=h1 t (by simp)
  simp only [z2e,Bool.and_eq_true] at h2
  have e:ofP (toP (t :: r)) = ⟨ofI (valI t.c),t.m⟩ :: ofP (toP r):=rfl
  rw [e,ih (fun u hu => hok u (by simp [hu])) (fun u hu => h1 u (by simp [hu])),zr2 (hok t (by simp)) h2.1.2]
theorem zk9 {last:Option RTerm} {ts:List RTerm} (h1:∀ t ∈ ts,z2e t = true) (h2:ts.Pairwise fun a b => z0e a.m b.m = 1) (h3:∀ u,last = some u → mayM u.m = true ∧ ∀ t ∈ ts,z0e u.m t.m = 1):z4w last ts = true:=by
 induction ts generalizing last with
 | nil => rfl
 | cons t r ih =>
  simp only [z4w,Bool.and_eq_true]
  have ht:=h1 t (by simp)
  have hm:mayM t.m = true:=by
   have:=ht
   simp only [z2e,Bool.and_eq_true] at this
   exact this.2
  refine ⟨⟨ht,?_⟩,ih (fun u hu => h1 u (by simp [hu])) (List.pairwise_cons.1 h2).2 (fun u hu => ?_)⟩
  ·cases last with
   | none => rfl
   | some u =>
    obtain ⟨g1,g2⟩:=h3 u rfl
    have:=g2 t (by simp)
    simp only [decide_eq_true_eq]
    unfold z4e
    simp [g1,hm,this]
  ·obtain rfl:t = u:=by simpa using hu
   exact ⟨hm,(List.pairwise_cons.1 h2).1⟩
theorem z7d {p:PZ} (h:canP p):mayT (ofP p) = true:=by
 refine zk9 (fun t ht => ?_) ?_ (fun u hu => by simp at hu)
 ·obtain ⟨u,hu,rfl⟩:=List.mem_map.1 ht
  have:=h.1 u hu
  simp only [z2e,Bool.and_eq_true,decide_eq_true_eq]
  refine ⟨⟨?_,zr3 _⟩,this.2⟩
  unfold ofI
  simp only
  rw [z0d z00]
  omega
 ·unfold ofP
  rw [List.pairwise_map]
  exact h.2
def z2v (ts:List RTerm):List RTerm:=if mayT ts then ts else []
def z0q (ts:List RTerm):PZ:=if mayT ts then toP ts else []
theorem z3e (ts:List RTerm):canP (z0q ts):=by
 unfold z0q
 split
 ·exact zr4 (by assumption)
 ·exact z2u
theorem z5v (ts:List RTerm):toP (z2v ts) = z0q ts:=by
 unfold z2v z0q
 split <;> rfl
end
section
open Go.RowKit
abbrev New (w w':World):Nat → Prop:=fun k => w.heap.size ≤ k ∧ k < w'.heap.size
theorem Tryz.infoU32:(Tryz.prog.info? 74).map (fun i => (i.zero,i.size,i.bytes)) = some (some (.int .u32 0),1,4):=by kernel_rfl
section
variable {S S':Nat → Prop} {w w':World} {v:Value}
theorem U32s.len_le {zs:List Nat} (h:U32s S w v zs):zs.length ≤ 9223372036854775807:=by
 obtain ⟨b,off,⟨a,cap,h1,h2,h3,_⟩,_⟩:=h
 unfold maxLen at h3
 omega
theorem U32s.lt {zs:List Nat} (h:U32s S w v zs):∀ z ∈ zs,z < B32:=by
 obtain ⟨b,off,hs,hc⟩:=h
 intro z hz
 obtain ⟨j,hj⟩:=List.getElem?_of_mem hz
 exact (hc j z hj).1
theorem U32s.at {zs:List Nat} {k z:Nat} (h:U32s S w v zs) (hz:zs[k]? = some z) :
  ∃ b off cap,v = .slice (some ⟨b,off,none⟩) zs.length cap ∧ zs.length ≤ cap ∧ cap ≤ 9223372036854775807 ∧ z < 4294967296 ∧ w.cell? ⟨b,off + k,none⟩ = some (.int .u32 (z:Nat)):=by
 obtain ⟨b,off,⟨a,cap,rfl,h2,h3,h4,h5⟩,hc⟩:=h
 obtain rfl:=h4 (by have:=z05 hz; omega)
 exact ⟨b,off,cap,rfl,h2,h3,hc k z hz⟩
theorem U32s.cellAt {zs:List Nat} {a:Option Addr} {n cap k z:Nat} (h:U32s S w (.slice a n cap) zs) (hz:zs[k]? = some z) :
  ∃ b off,a = some ⟨b,off,none⟩ ∧ n = zs.length ∧ n ≤ cap ∧ cap ≤ 9223372036854775807 ∧ S b ∧ z < 4294967296 ∧ w.cell? ⟨b,off + k,none⟩ = some (.int .u32 (z:Nat)):=by
 obtain ⟨b,off,⟨a',cap',h1,h2,h3,h4,h5⟩,hc⟩:=h
 obtain ⟨rfl,rfl,rfl⟩:a = a' ∧ n = zs.length ∧ cap = cap':=by simpa using h1
 have hp:0 < zs.length:=by have:=z05 hz; omega
 exact ⟨b,off,h4 hp,rfl,h2,h3,h5 hp,hc k z hz⟩
theorem U32s.take {zs:List Nat} {a:Option Addr} {n cap k:Nat} (h:U32s S w (.slice a n cap) zs) (hk:k ≤ n):U32s S w (.slice a k cap) (zs.take k):=by
 obtain ⟨b,off,⟨a',cap',h1,h2,h3,h4,h5⟩,hc⟩:=h
 obtain ⟨rfl,rfl,rfl⟩:a = a' ∧ n = zs.length ∧ cap = cap':=by simpa using h1
 have hl:(zs.take k).length = k:=by rw [List.length_take]; omega
 refine ⟨b,off,⟨a,cap,by rw [hl],by omega,h3,fun h => h4 (by omega),fun h => h5 (by omega)⟩,fun j z hz => hc j z ?_⟩
 rw [List.getElem?_take] at hz
 split at hz
 ·exact hz
 ·simp at hz
theorem U32s.nilv (S:Nat → Prop) (w:World) (a:Option Addr) (cap:Nat) (h:cap ≤ 9223372036854775807):U32s S w (.slice a 0 cap) [] :=
 ⟨0,0,⟨a,cap,rfl,Nat.zero_le _,by unfold maxLen; omega,fun h => absurd h (Nat.lt_irrefl _),fun h => absurd h (Nat.lt_irrefl _)⟩,fun j x hx => by simp at hx⟩
def rowU (o:List Nat):Nat → Value:=fun j => .int .u32 (dg o j:Nat)
theorem z2o {T:TypeId} {n g:Nat} {o:List Nat} (h:w.rowIs g T n (rowU o)) (z:Nat):(w.setCell ⟨g,o.length,none⟩ (.int .u32 (z:Nat))).rowIs g T n (rowU (o ++ [z])):=by
 refine (h.set o.length (.int .u32 (z:Nat))).congr (fun i hi => ?_)
 unfold rowU dg
 by_cases e:i = o.length
 ·subst e
  simp
 ·rw [if_neg e]
  by_cases hl:i < o.length
  ·rw [List.getElem?_append_left hl]
  ·rw [List.getElem?_eq_none (by omega),List.getElem?_eq_none (by simp; omega)]
theorem z5d {T:TypeId} {n g:Nat} {o:List Nat} (h:w.rowIs g T n (rowU o)) (k z:Nat) (hk:k < o.length):(w.setCell ⟨g,k,none⟩ (.int .u32 (z:Nat))).rowIs g T n (rowU (o.set k z)):=by
 refine (h.set k (.int .u32 (z:Nat))).congr (fun i hi => ?_)
 unfold rowU dg
 rw [List.getElem?_set]
 by_cases e:i = k
 ·subst e
  simp [hk]
 ·rw [if_neg e,if_neg (fun h => e h.symm)]
theorem zb2 (w:World) (n:Nat) (T:TypeId):(w.alloc (.cells (madeCells #[.int .u32 0] n) T)).rowIs w.heap.size T n (rowU []) :=
 (World.rowIs_made w (.int .u32 0) n T).congr (fun i _ => by simp [rowU,dg])
theorem z5w (w:World) (n:Nat) (T:TypeId):(w.alloc (.cells (madeCells #[.int .u32 0] n) T)).rowIs w.heap.size T n (rowU (List.replicate n 0)) :=
 (World.rowIs_made w (.int .u32 0) n T).congr (fun i hi => by simp [rowU,dg,hi])
def uval (z:Nat):Value:=.int .u32 (z:Nat)
theorem zfe (n:Nat):madeCells #[Value.int .u32 0] n = (List.replicate n (Value.int .u32 0)).toArray:=by
 apply Array.ext
 ·simp [madeCells]
 ·intro i h1 h2
  simp [madeCells,Nat.mod_one]
theorem U32s.of_block {T:TypeId} {g:Nat} {o:List Nat} (h:w.heap[g]? = some (.cells (o.map uval).toArray T (0,0))) (hl:∀ z ∈ o,z < B32) (hc:o.length ≤ 9223372036854775807) (a:Option Addr) (ha:0 < o.length → a = some ⟨g,0,none⟩):U32s (fun k => k = g) w (.slice a o.length o.length) o:=by
 refine ⟨g,0,⟨_,o.length,rfl,Nat.le_refl _,by unfold maxLen; omega,ha,fun _ => rfl⟩,fun j z hz => ⟨hl z (List.mem_of_getElem? hz),?_⟩⟩
 rw [Nat.zero_add,cell_of_row w g j _ T (0,0) h]
 simp [hz,uval]
theorem zd1 {α:Type} (L cs:List α) (h:L.length = cs.length):splice L 0 cs = cs:=by simp [splice,h]
theorem U32s.src {zs:List Nat} {a:Option Addr} {n cap:Nat} (h:U32s S w (.slice a n cap) zs) (hpos:0 < (zs.map uval).length):∃ ad,a = some ad ∧ ∀ j v,(zs.map uval)[j]? = some v → w.cell? (ad.add j) = some v:=by
 obtain ⟨b,off,⟨a',cap',h1,h2,h3,h4,h5⟩,hc⟩:=h
 obtain ⟨rfl,rfl,rfl⟩:a = a' ∧ n = zs.length ∧ cap = cap':=by simpa using h1
 refine ⟨_,h4 (by simpa using hpos),fun j v hv => ?_⟩
 rw [List.getElem?_map] at hv
 cases hz:zs[j]? with
 | none => simp [hz] at hv
 | some z =>
  obtain rfl:uval z = v:=by simpa [hz] using hv
  rw [show (⟨b,off,none⟩:Addr).add j = ⟨b,off + j,none⟩ by unfold Addr.add; split <;> simp_all]
  exact (hc j z hz).2
theorem U32s.of_row {T:TypeId} {g cap:Nat} {o:List Nat} (h:w.rowIs g T cap (rowU o)) (ho:o.length ≤ cap) (hl:∀ z ∈ o,z < B32) (hc:cap ≤ 9223372036854775807):U32s (fun k => k = g) w (.slice (some ⟨g,0,none⟩) o.length cap) o:=by
 refine ⟨g,0,⟨_,cap,rfl,ho,by unfold maxLen; omega,fun _ => rfl,fun _ => rfl⟩,fun j z hz => ⟨hl z (List.mem_of_getElem? hz),?_⟩⟩
 have hj:=z05 hz
 rw [Nat.zero_add,h.cell (i:=j) (by omega)]
 simp [rowU,dg,hz]
end
end
section
open Go.RowKit
theorem z29 {S:Nat → Prop} (v:Value) (zs:List Nat) (w:World) (h:U32s S w v zs) :
  Calls Tryz.prog 113 #[v] w fun e w' => ∃ v',e = .returned v' ∧ U32s S w v' (rep B32 (val B32 zs)) ∧ w = w':=by
 have hl:=h.len_le
 have H:=hid h
 obtain ⟨a,cap,rfl⟩:=h.form
 clear h
 go_enter Tryz.func113,Tryz.ntmps113
 go_wp2
 go_loop [0] (fun x => ∃ k:Nat,k ≤ zs.length ∧ x = .slice a k cap ∧ z2m zs k = z2m zs zs.length) (fun x => z1i x)
 case atStart => exact ⟨zs.length,Nat.le_refl _,rfl,rfl⟩
 case round =>
  obtain ⟨k,hk,rfl,ht⟩:=hrel
  cases k with
  | zero =>
   have HT:=hid ht
   clear ht
   go_wp2
   all_goals
    go_ret
    refine ⟨_,rfl,?_,rfl⟩
    have h1:=H.out.take (Nat.zero_le _)
    rw [← z5r z00 zs H.out.lt,← List.take_length (l:=zs),← z4u zs _ (Nat.le_refl _),← HT.out]
    exact h1
  | succ k =>
   obtain ⟨z,hz⟩:=z01 (show k < zs.length by omega)
   obtain ⟨b,off,cap',hv,hcap,hmax,hzb,hcell⟩:=H.out.at hz
   obtain ⟨rfl,-,rfl⟩:a = some ⟨b,off,none⟩ ∧ True ∧ cap = cap':=by simpa using hv
   have HT:=hid ht
   have HZ:=hid hz
   clear ht hz hv
   by_cases h0:z = 0
   ·have hb:((z:Int) == 0) = true:=by simpa using h0
    have H0:=hid h0
    clear h0
    go_wp2
    go_round
    case rel => exact ⟨k,by omega,rfl,by rw [← HT.out,z2m,HZ.out,H0.out,if_pos rfl]⟩
    case measure => simp only [z1i]; omega
   ·have hb:((z:Int) == 0) = false:=by simpa using h0
    have H0:=hid h0
    clear h0
    go_wp2
    all_goals
     go_ret
     refine ⟨_,rfl,?_,rfl⟩
     have h1:=H.out.take hk
     have h2:z2m zs (k + 1) = k + 1:=by rw [z2m,HZ.out,if_neg (by simpa using H0.out)]
     rw [← z5r z00 zs H.out.lt,← List.take_length (l:=zs),← z4u zs _ (Nat.le_refl _),← HT.out,h2]
     exact h1
theorem z23 {S:Nat → Prop} (v:Value) (zs:List Nat) (w:World) (h:U32s S w v zs) (hS:∀ k,S k → k < w.heap.size) (hr:zs.length ≤ 50000000000000) :
  Calls Tryz.prog 126 #[v] w fun e w' => ∃ v',e = .returned v' ∧ U32s (New w w') w' v' (rep B32 (val B32 zs)) ∧ Ext w w':=by
 have hle:(rep B32 (val B32 zs)).length ≤ zs.length:=z0f z00 _ _ (z1k zs h.lt)
 have H:=hid h
 obtain ⟨a,cap,rfl⟩:=h.form
 clear h
 have hmk:=fun (n:Nat) (hn:n ≤ 50000000000000) (W:World) => run_make_row' (P:=Tryz.prog) 28 74 (.int .u32 0) 4 Tryz.underlying28 Tryz.infoU32 rfl .i64 .i64 n (by omega) (by omega) W
 go_enter Tryz.func126,Tryz.ntmps126
 go_wp2_with fail
 refine (z29 _ zs _ H.out).mono ?_
 rintro e w' ⟨v',rfl,hu,rfl⟩
 generalize hR:rep B32 (val B32 zs) = R at hu hle
 have HR:=hid hR
 have HU:=hid hu
 obtain ⟨a',c',rfl⟩:=hu.form
 have hmk1:=hmk R.length (by omega) w
 have hrl:∀ z ∈ R,z < B32:=by rw [← HR.out]; exact z3q z00 _
 have HL:=hid hrl
 have HA:=hid (Ext.alloc (Ext.refl w) (.cells (madeCells #[.int .u32 0] R.length) 74))
 have HUA:=hid (HU.out.to (Kept.alloc hS (.cells (madeCells #[.int .u32 0] R.length) 74)) (fun _ h => h))
 have hc':=HU.out.len_le
 clear hR hu hmk hrl
 go_wp2_with (refine wpList_copy_splice (by rfl) (.tmp 9) (.tmp 10) 28 28 (by rfl) 74 Tryz.underlying28 (by kernel_rfl) (some ⟨w.heap.size,0,none⟩) a' R.length R.length R.length c' (by rfl) (by rfl) w.heap.size 0 (List.replicate R.length (.int .u32 0)) 74 (by rw [heap_alloc_new,zfe]) (R.map uval) (by simp) (fun hp => ⟨rfl,HUA.out.src hp⟩) (by simp) (by intro v hv; obtain ⟨z,_,rfl⟩:=List.mem_map.1 hv; rfl) w.heap.size w HA.out (Nat.le_refl _) ?_; intro w2 hg hb)
 have HG:=hid hg
 have HB:=hid hb
 clear hg hb
 go_wp2
 go_ret
 refine ⟨_,rfl,?_,HB.out⟩
 have hg:=HG.out.out
 rw [zd1 _ _ (by simp)] at hg
 rw [HR.out]
 refine (U32s.of_block hg HL.out hc' _ (fun _ => rfl)).to (Kept.refl _ _) (fun k hk => ?_)
 subst hk
 exact ⟨Nat.le_refl _,(Array.getElem?_eq_some_iff.1 hg).1⟩
end
section
open Go.RowKit
def cmpN (a b:Nat):Int:=cmpI (a:Int) (b:Int)
theorem zr5 {n m:Nat} (h:(rep B32 n).length < (rep B32 m).length):cmpN n m = -1:=by
 have:=z7c z00 h
 unfold cmpN
 rw [z2w]
 omega
theorem zmj {n m:Nat} (h:(rep B32 m).length < (rep B32 n).length):cmpN n m = 1:=by
 have:=z7c z00 h
 unfold cmpN
 rw [z3y]
 omega
theorem ziq {n m k x y:Nat} (hlen:(rep B32 n).length = (rep B32 m).length) (hx:(rep B32 n)[k]? = some x) (hy:(rep B32 m)[k]? = some y) (ht:val B32 ((rep B32 n).drop (k + 1)) = val B32 ((rep B32 m).drop (k + 1))) (h:x < y):cmpN n m = -1:=by
 have h1:=zd0 (B:=B32) (l:=rep B32 n) (m:=rep B32 m) (k:=k) (by decide) (z3q z00 n) (by rw [z0o hx,z0o hy]; exact h) (z05 hx) (z05 hy) ht hlen
 rw [z0d z00,z0d z00] at h1
 unfold cmpN
 rw [z2w]
 omega
theorem zmk {n m k x y:Nat} (hlen:(rep B32 n).length = (rep B32 m).length) (hx:(rep B32 n)[k]? = some x) (hy:(rep B32 m)[k]? = some y) (ht:val B32 ((rep B32 n).drop (k + 1)) = val B32 ((rep B32 m).drop (k + 1))) (h:y < x):cmpN n m = 1:=by
 have:=ziq hlen.symm hy hx ht.symm h
 unfold cmpN at *
 rw [zdr,this]
 rfl
theorem zb3 {S:Nat → Prop} (va vb:Value) (xs ys:List Nat) (w:World) (ha:U32s S w va xs) (hb:U32s S w vb ys) (hS:∀ k,S k → k < w.heap.size) :
  Calls Tryz.prog 127 #[va,vb] w fun e w' => e = .returned (.int .i64 (cmpN (val B32 xs) (val B32 ys))) ∧ Ext w w':=by
 have HA:=hid ha
 have HB:=hid hb
 obtain ⟨aa,ca,rfl⟩:=ha.form
 obtain ⟨ab,cb,rfl⟩:=hb.form
 clear ha hb
 go_enter Tryz.func127,Tryz.ntmps127
 go_wp2_with fail
 refine (z29 _ xs _ HA.out).mono ?_
 rintro e w' ⟨va,rfl,hu,rfl⟩
 have HU:=hid hu
 obtain ⟨a1,c1,rfl⟩:=hu.form
 clear hu
 go_wp2_with fail
 refine (z29 _ ys _ HB.out).mono ?_
 rintro e w' ⟨vb,rfl,hv,rfl⟩
 have HV:=hid hv
 obtain ⟨a2,c2,rfl⟩:=hv.form
 clear hv
 generalize hn:val B32 xs = n at HU
 generalize hm:val B32 ys = m at HV
 have HN:=hid hn
 have HM:=hid hm
 clear hn hm
 have hl1:=HU.out.len_le
 have hl2:=HV.out.len_le
 rcases (show (rep B32 n).length < (rep B32 m).length ∨ (rep B32 m).length < (rep B32 n).length ∨ (rep B32 n).length = (rep B32 m).length by omega) with hlt | hlt | heq
 ·have HC:=hid (zr5 hlt)
  go_wp2
  all_goals
   go_ret
   exact ⟨by rw [HN.out,HM.out,HC.out]; rfl,Ext.refl _⟩
 ·have HC:=hid (zmj hlt)
  go_wp2
  all_goals
   go_ret
   exact ⟨by rw [HN.out,HM.out,HC.out]; rfl,Ext.refl _⟩
 ·have HE:=hid heq
  obtain ⟨L,hL⟩:∃ L,L = (rep B32 n).length:=⟨_,rfl⟩
  have HL:=hid hL
  rw [← heq,← hL] at HV hl2 ⊢
  rw [← hL] at HU hl1
  clear heq hL
  go_wp2
  go_loopw [25] (fun i wr => ∃ k:Nat,k ≤ L ∧ i = .int .i64 k ∧ Ext w wr ∧ val B32 ((rep B32 n).drop (L - k)) = val B32 ((rep B32 m).drop (L - k))) (fun i _ => L - (intOf i).toNat)
  case atStart => exact ⟨0,Nat.zero_le _,rfl,Ext.refl _,by rw [List.drop_eq_nil_of_le (by have:=HL.out; omega),List.drop_eq_nil_of_le (by have:=HL.out; have:=HE.out; omega)]⟩
  case round =>
   obtain ⟨k,hk,rfl,hx,ht⟩:=hrel
   by_cases hlt:k < L
   ·obtain ⟨q,rfl⟩:∃ q,L = q + 1 + k:=⟨L - 1 - k,by omega⟩
    rw [show q + 1 + k - k = q + 1 by omega] at ht
    obtain ⟨x,hx1⟩:=z01 (show q < (rep B32 n).length by have:=HL.out; omega)
    obtain ⟨y,hy1⟩:=z01 (show q < (rep B32 m).length by have:=HL.out; have:=HE.out; omega)
    obtain ⟨b1,o1,rfl,-,hn1,hm1,-,hxb,hc1⟩:=(HU.out.to (Kept.ext hx hS) (fun _ h => h)).cellAt hx1
    obtain ⟨b2,o2,rfl,-,hn2,hm2,-,hyb,hc2⟩:=(HV.out.to (Kept.ext hx hS) (fun _ h => h)).cellAt hy1
    have HX:=hid hx
    have HT:=hid ht
    have HX1:=hid hx1
    have HY1:=hid hy1
    clear hx ht hx1 hy1
    have hq:((q:Nat):Int) + 1 + (k:Int) - 1 - (k:Int) = (q:Int):=by omega
    rcases (show x < y ∨ y < x ∨ x = y by omega) with hlt | hlt | heq
    ·have HC:=hid (ziq HE.out HX1.out HY1.out HT.out hlt)
     go_wp2
     go_quiet (fail)
     go_wp2
     all_goals
      go_ret
      exact ⟨by rw [HN.out,HM.out,HC.out]; rfl,HX.out.drewN _⟩
    ·have HC:=hid (zmk HE.out HX1.out HY1.out HT.out hlt)
     go_wp2
     go_quiet (fail)
     go_wp2
     go_quiet (fail)
     go_wp2
     all_goals
      go_ret
      exact ⟨by rw [HN.out,HM.out,HC.out]; rfl,(HX.out.drewN _).drewN _⟩
    ·subst heq
     go_wp2
     go_quiet (fail)
     go_wp2
     go_quiet (fail)
     go_wp2
     go_roundw
     case rel =>
      refine ⟨k + 1,by omega,by go_num,HX.out.drewN _,?_⟩
      rw [show q + 1 + k - (k + 1) = q by omega,z7b HX1.out,z7b HY1.out,HT.out]
     case measure => simp only [intOf]; omega
   ·obtain rfl:k = L:=by omega
    have HX:=hid hx
    have HC:Hid (cmpN n m = 0):=by
     have e:n = m:=by
      rw [Nat.sub_self] at ht
      simpa [z0d z00] using ht
     refine hid ?_
     rw [e]
     exact zfc _
    clear hx ht
    go_wp2
    all_goals
     go_ret
     exact ⟨by rw [HN.out,HM.out,HC.out]; rfl,HX.out⟩
end
section
open Go.RowKit
theorem zka {S:Nat → Prop} (va vb:Value) (xs ys:List Nat) (w:World) (ha:U32s S w va xs) (hb:U32s S w vb ys) (hS:∀ k,S k → k < w.heap.size) (hlt:val B32 xs < val B32 ys) :
  Calls Tryz.prog 100 #[va,vb] w fun e w' => e = .returned (.tuple #[.slice none 0 0,.int .i64 2]) ∧ Ext w w':=by
 have HA:=hid ha
 have HB:=hid hb
 obtain ⟨aa,ca,rfl⟩:=ha.form
 obtain ⟨ab,cb,rfl⟩:=hb.form
 have hc:cmpN (val B32 xs) (val B32 ys) = -1:=by unfold cmpN; rw [z2w]; omega
 have hm:=zb3 _ _ xs ys w HA.out HB.out hS
 rw [hc] at hm
 have HM:=hid hm
 clear ha hb hc hm hlt
 go_enter Tryz.func100,Tryz.ntmps100
 go_wp2_with fail
 refine HM.out.mono ?_
 rintro e w1 ⟨rfl,hx1⟩
 have HX:=hid hx1
 clear hx1
 go_wp2
 go_ret2
 exact ⟨rfl,HX.out⟩
theorem z67 {S:Nat → Prop} (va vb:Value) (xs ys:List Nat) (w:World) (ha:U32s S w va xs) (hb:U32s S w vb ys) (hS:∀ k,S k → k < w.heap.size) (hr:xs.length ≤ 50000000000000) (hge:val B32 ys ≤ val B32 xs) :
  Calls Tryz.prog 100 #[va,vb] w fun e w' => ∃ v',e = .returned (.tuple #[v',.int .i64 0]) ∧ U32s (New w w') w' v' (rep B32 (val B32 xs - val B32 ys)) ∧ Ext w w':=by
 have hxl:(rep B32 (val B32 xs)).length ≤ xs.length:=z0f z00 _ _ (z1k xs ha.lt)
 have HA:=hid ha
 have HB:=hid hb
 obtain ⟨aa,ca,rfl⟩:=ha.form
 obtain ⟨ab,cb,rfl⟩:=hb.form
 obtain ⟨cc,hc,hcc⟩:∃ cc:Int,cmpN (val B32 xs) (val B32 ys) = cc ∧ 0 ≤ cc ∧ cc ≤ 1:=⟨_,rfl,by unfold cmpN cmpI; split <;> (try split) <;> omega⟩
 have hm:=zb3 _ _ xs ys w HA.out HB.out hS
 rw [hc] at hm
 have HM:=hid hm
 have HGE:=hid hge
 clear ha hb hc hm hge
 go_enter Tryz.func100,Tryz.ntmps100
 go_wp2_with fail
 refine HM.out.mono ?_
 rintro e w1 ⟨rfl,hx1⟩
 have hS1:∀ k,S k → k < w1.heap.size:=fun k hk => Nat.lt_of_lt_of_le (hS k hk) hx1.size
 have HX:=hid hx1
 go_wp2_with fail
 refine (z29 (S:=S) _ xs w1 (HA.out.to (Kept.ext hx1 hS) (fun _ h => h))).mono ?_
 rintro e w' ⟨va,rfl,hu,rfl⟩
 have HU:=hid hu
 obtain ⟨a1,c1,rfl⟩:=hu.form
 clear hu
 go_wp2_with fail
 refine (z29 (S:=S) _ ys w1 (HB.out.to (Kept.ext hx1 hS) (fun _ h => h))).mono ?_
 rintro e w' ⟨vb,rfl,hv,rfl⟩
 have HV:=hid hv
 obtain ⟨a2,c2,rfl⟩:=hv.form
 clear hv hx1
 generalize hn:val B32 xs = n at HU HGE hxl
 generalize hm:val B32 ys = m at HV HGE
 have HN:=hid hn
 have HM:=hid hm
 clear hn hm
 have hmk:=run_make_row' (P:=Tryz.prog) 28 74 (.int .u32 0) 4 Tryz.underlying28 Tryz.infoU32 rfl .i64 .i64 (rep B32 n).length (by omega) (by omega) w1
 have hz:w1.heap.size < (w1.alloc (.cells (madeCells #[.int .u32 0] (rep B32 n).length) 74)).heap.size:=by simp
 have HR:=hid (zb2 w1 (rep B32 n).length 74)
 have HE:=hid (Ext.alloc (Ext.refl w1) (.cells (madeCells #[.int .u32 0] (rep B32 n).length) 74))
 go_wp2
 go_loopw [7,23] (fun c i wr => ∃ (k cc:Nat) (o:List Nat),k ≤ (rep B32 n).length ∧ i = .int .i64 k ∧ c = .int .u64 cc ∧ cc ≤ 1 ∧ o.length = k ∧ Hid (∀ z ∈ o,z < B32) ∧ wr.rowIs w1.heap.size 74 (rep B32 n).length (rowU o) ∧ Ext w1 wr ∧
  val B32 o + val B32 ((rep B32 m).take k) = val B32 ((rep B32 n).take k) + B32 ^ k * cc) (fun _ i _ => (rep B32 n).length - (intOf i).toNat)
 case atStart => exact ⟨0,0,[],Nat.zero_le _,rfl,rfl,by omega,rfl,hid (by simp),HR.out,HE.out,by simp [val]⟩
 case round =>
  obtain ⟨k,cc,o,hk,rfl,rfl,hcc,hol,HO,hrow,hx,hv⟩:=hrel
  by_cases hlt:k < (rep B32 n).length
  ·obtain ⟨x,hx1⟩:=z01 hlt
   obtain ⟨b1,o1,rfl,-,hn1,hm1,-,hxb,hc1⟩:=(HU.out.to (Kept.ext hx hS1) (fun _ h => h)).cellAt hx1
   have hcs:=hrow.cell (i:=k) (by omega)
   have hfs:=hrow.frozen k
   have HX1:=hid hx1
   have HROW:=hid hrow
   have HXR:=hid hx
   have HV1:=hid hv
   have HOL:=hid hol
   clear hx1 hrow hx hv hol
   by_cases hlt2:k < (rep B32 m).length
   ·obtain ⟨y,hy1⟩:=z01 hlt2
    obtain ⟨b2,o2,rfl,-,hn2,hm2,-,hyb,hc2⟩:=(HV.out.to (Kept.ext HXR.out hS1) (fun _ h => h)).cellAt hy1
    have HY1:=hid hy1
    clear hy1
    by_cases hs:y + cc ≤ x
    ·go_wp2
     go_roundw
     case rel =>
      skip
      refine ⟨k + 1,0,o ++ [x - y - cc],by omega,by go_num,congrArg (Value.int .u64) (by omega),by omega,by simp [HOL.out],?_,?_,HXR.out.setCell (p:=⟨w1.heap.size,k,none⟩) (Nat.le_refl _) _,?_⟩
      ·refine hid (fun z hz => ?_)
       rcases List.mem_append.1 hz with h | h
       ·exact HO.out z h
       ·rw [List.mem_singleton.1 h]
        show _ < 4294967296
        omega
      ·have h1:=z2o HROW.out (x - y - cc)
       rw [HOL.out] at h1
       refine cast (congrArg (fun e => World.rowIs (World.setCell wr ⟨w1.heap.size,k,none⟩ (Value.int .u32 e)) _ _ _ _) ?_) h1
       omega
      ·refine z58 HOL.out HV1.out _ _ ?_
       rw [z0o HX1.out,z0o HY1.out]
       show _ + 4294967296 * _ = _
       omega
     case measure => simp only [intOf]; omega
    ·go_wp2
     go_roundw
     case rel =>
      rw [show IntKind.u64.wrap (IntKind.u64.wrap ((x:Int) - cc) - y) = 18446744073709551616 + (x:Int) - cc - y by rw [IntKind.wrap_u64,IntKind.wrap_u64]; omega]
      refine ⟨k + 1,1,o ++ [x + 4294967296 - y - cc],by omega,by go_num,congrArg (Value.int .u64) (by omega),by omega,by simp [HOL.out],?_,?_,HXR.out.setCell (p:=⟨w1.heap.size,k,none⟩) (Nat.le_refl _) _,?_⟩
      ·refine hid (fun z hz => ?_)
       rcases List.mem_append.1 hz with h | h
       ·exact HO.out z h
       ·rw [List.mem_singleton.1 h]
        show _ < 4294967296
        omega
      ·have h1:=z2o HROW.out (x + 4294967296 - y - cc)
       rw [HOL.out] at h1
       refine cast (congrArg (fun e => World.rowIs (World.setCell wr ⟨w1.heap.size,k,none⟩ (Value.int .u32 e)) _ _ _ _) ?_) h1
       omega
      ·refine z58 HOL.out HV1.out _ _ ?_
       rw [z0o HX1.out,z0o HY1.out]
       show _ + 4294967296 * _ = _
       omega
     case measure => simp only [intOf]; omega
   ·by_cases hs:cc ≤ x
    ·go_wp2
     go_roundw
     case rel =>
      skip
      refine ⟨k + 1,0,o ++ [x - 0 - cc],by omega,by go_num,congrArg (Value.int .u64) (by omega),by omega,by simp [HOL.out],?_,?_,HXR.out.setCell (p:=⟨w1.heap.size,k,none⟩) (Nat.le_refl _) _,?_⟩
      ·refine hid (fun z hz => ?_)
       rcases List.mem_append.1 hz with h | h
       ·exact HO.out z h
       ·rw [List.mem_singleton.1 h]
        show _ < 4294967296
        omega
      ·have h1:=z2o HROW.out (x - 0 - cc)
       rw [HOL.out] at h1
       refine cast (congrArg (fun e => World.rowIs (World.setCell wr ⟨w1.heap.size,k,none⟩ (Value.int .u32 e)) _ _ _ _) ?_) h1
       omega
      ·refine z58 HOL.out HV1.out _ _ ?_
       rw [z0o HX1.out,z2n (l:=rep B32 m) (by omega)]
       show _ + 4294967296 * _ = _
       omega
     case measure => simp only [intOf]; omega
    ·go_wp2
     go_roundw
     case rel =>
      rw [show IntKind.u64.wrap ((x:Int) - cc) = 18446744073709551616 + (x:Int) - cc by rw [IntKind.wrap_u64]; omega]
      refine ⟨k + 1,1,o ++ [x + 4294967296 - 0 - cc],by omega,by go_num,congrArg (Value.int .u64) (by omega),by omega,by simp [HOL.out],?_,?_,HXR.out.setCell (p:=⟨w1.heap.size,k,none⟩) (Nat.le_refl _) _,?_⟩
      ·refine hid (fun z hz => ?_)
       rcases List.mem_append.1 hz with h | h
       ·exact HO.out z h
       ·rw [List.mem_singleton.1 h]
        show _ < 4294967296
        omega
      ·have h1:=z2o HROW.out (x + 4294967296 - 0 - cc)
       rw [HOL.out] at h1
       refine cast (congrArg (fun e => World.rowIs (World.setCell wr ⟨w1.heap.size,k,none⟩ (Value.int .u32 e)) _ _ _ _) ?_) h1
       omega
      ·refine z58 HOL.out HV1.out _ _ ?_
       rw [z0o HX1.out,z2n (l:=rep B32 m) (by omega)]
       show _ + 4294967296 * _ = _
       omega
     case measure => simp only [intOf]; omega
  ·obtain rfl:k = (rep B32 n).length:=by omega
   have HXR:=hid hx
   have HROW:=hid hrow
   have hml:(rep B32 m).length ≤ (rep B32 n).length:=z0f z00 _ _ (Nat.lt_of_le_of_lt HGE.out (z0y z00 n))
   rw [List.take_of_length_le hml,List.take_length,z0d z00,z0d z00] at hv
   have HV1:=hid (zmd HO.out hol HGE.out hv)
   have hu:U32s (fun k => k = w1.heap.size) wr (.slice (some ⟨w1.heap.size,0,none⟩) (rep B32 n).length (rep B32 n).length) o:=by
    have h1:=U32s.of_row HROW.out (by omega) HO.out (by omega)
    rwa [hol] at h1
   have HU1:=hid hu
   clear hx hrow hv hol hu
   go_wp2_with fail
   refine (z29 _ o _ HU1.out).mono ?_
   rintro e w' ⟨v',rfl,hu,rfl⟩
   have H:=hid hu
   clear hu
   go_wp2
   all_goals
    go_ret2
    refine ⟨_,rfl,?_,HX.out.trans HXR.out⟩
    rw [HN.out,HM.out,← HV1.out]
    refine H.out.to (Kept.refl _ _) (fun k hk => ?_)
    subst hk
    exact ⟨HX.out.size,HROW.out.lt⟩
end
section
theorem zr6 {P U3 Ul V2 Vl q:Nat} (hUl:Ul < P) (h:U3 < (q + 1) * V2):U3 * P + Ul < (q + 1) * (V2 * P + Vl):=by
 have h1:(U3 + 1) * P ≤ (q + 1) * V2 * P:=Nat.mul_le_mul_right P h
 rw [Nat.add_mul U3 1 P,Nat.one_mul] at h1
 rw [Nat.mul_add,← Nat.mul_assoc]
 omega
theorem zml {B P U3 Ul V2 Vl q:Nat} (hVl:Vl < P) (hq:q * V2 ≤ U3) (hqB:q ≤ B) (hV2:B ≤ V2):q * (V2 * P + Vl) ≤ (U3 * P + Ul) + (V2 * P + Vl):=by
 cases q with
 | zero => rw [Nat.zero_mul]; exact Nat.zero_le _
 | succ p =>
  have h1:(p + 1) * V2 * P ≤ U3 * P:=Nat.mul_le_mul_right P hq
  have h2:p * Vl ≤ V2 * P:=Nat.mul_le_mul (by omega) (Nat.le_of_lt hVl)
  rw [Nat.mul_add,← Nat.mul_assoc,Nat.add_mul p 1 Vl,Nat.one_mul]
  omega
def z8a (B top u2 v1 v2 q:Nat):Prop:=B ≤ q + 1 ∨ top * B + u2 < (q + 1) * (v1 * B + v2)
theorem zhk {B top u2 v1 v2:Nat} (hu2:u2 < B) (hv1:0 < v1):z8a B top u2 v1 v2 (top / v1):=by
 refine .inr ?_
 have h1:top < (top / v1 + 1) * v1:=by
  have h:=Nat.div_add_mod top v1
  have h2:=Nat.mod_lt top hv1
  rw [Nat.add_mul,Nat.one_mul,Nat.mul_comm]
  omega
 have h3:(top + 1) * B ≤ (top / v1 + 1) * v1 * B:=Nat.mul_le_mul_right B h1
 rw [Nat.add_mul top 1 B,Nat.one_mul] at h3
 rw [Nat.mul_add,← Nat.mul_assoc]
 omega
theorem zd2 {B top u2 v1 v2 q r:Nat} (ht:r + q * v1 = top) (hq:0 < q) (hc:B ≤ q ∨ r * B + u2 < q * v2):z8a B top u2 v1 v2 (q - 1):=by
 have e:q - 1 + 1 = q:=by omega
 unfold z8a
 rw [e]
 rcases hc with h | h
 ·exact .inl h
 ·refine .inr ?_
  rw [← ht,Nat.add_mul,Nat.mul_add,← Nat.mul_assoc]
  omega
theorem zkb {B top u2 v1 v2 q r:Nat} (ht:r + q * v1 = top) (hc:r * B + u2 ≥ q * v2):q * (v1 * B + v2) ≤ top * B + u2:=by
 rw [← ht,Nat.add_mul,Nat.mul_add,← Nat.mul_assoc]
 omega
theorem zff {v1 q r top:Nat} (ht:r + q * v1 = top) (hq:0 < q):r + v1 + (q - 1) * v1 = top:=by
 obtain ⟨p,rfl⟩:∃ p,q = p + 1:=⟨q - 1,by omega⟩
 rw [Nat.add_mul,Nat.one_mul] at ht
 rw [Nat.add_sub_cancel]
 omega
theorem zb4 {B top u0 u1 u2 v1 v2 q r:Nat} (ht:r + q * v1 = top) (htop:top = u0 * B + u1) (hle:u0 ≤ v1) (hu1:u1 < B) (hv2:v2 < B) (hr:B ≤ r):q < B ∧ q * v2 ≤ r * B + u2:=by
 have hq:q < B:=by
  rcases Nat.lt_or_ge q B with h | h
  ·exact h
  ·have h1:B * v1 ≤ q * v1:=Nat.mul_le_mul_right v1 h
   have h2:u0 * B ≤ v1 * B:=Nat.mul_le_mul_right B hle
   rw [Nat.mul_comm B v1] at h1
   omega
 refine ⟨hq,?_⟩
 have h1:q * v2 ≤ B * B:=Nat.mul_le_mul (by omega) (by omega)
 have h2:B * B ≤ r * B:=Nat.mul_le_mul_right B hr
 omega
theorem zr7 {U V q o b M:Nat} (ho:o < M) (hb:b ≤ 1) (h:o + q * V = U + M * b) (hup:U < (q + 1) * V) (hlow:q * V ≤ U + V) (_hU:U < M) (hV:V ≤ M) :
  (b = 0 → q = U / V ∧ o = U % V) ∧ (b = 1 → 0 < q ∧ q - 1 = U / V ∧ (o + V) % M = U % V):=by
 have hV0:0 < V:=by
  rcases Nat.eq_zero_or_pos V with h0 | h0
  ·rw [h0,Nat.mul_zero] at hup; omega
  ·exact h0
 rw [Nat.add_mul,Nat.one_mul] at hup
 refine ⟨fun h0 => ?_,fun h1 => ?_⟩
 ·subst h0
  have e:U = V * q + o:=by rw [Nat.mul_comm V q]; omega
  have hlt:o < V:=by omega
  refine ⟨?_,?_⟩
  ·rw [e,Nat.mul_add_div hV0,Nat.div_eq_of_lt hlt]; omega
  ·rw [e,Nat.mul_add_mod,Nat.mod_eq_of_lt hlt]
 ·subst h1
  rw [Nat.mul_one] at h
  have hq:0 < q:=by
   rcases Nat.eq_zero_or_pos q with h0 | h0
   ·rw [h0,Nat.zero_mul] at h; omega
   ·exact h0
  obtain ⟨p,rfl⟩:∃ p,q = p + 1:=⟨q - 1,by omega⟩
  rw [Nat.add_mul,Nat.one_mul] at h hup hlow
  have e:U = V * p + (o + V - M):=by rw [Nat.mul_comm V p]; omega
  have hlt:o + V - M < V:=by omega
  have hge:M ≤ o + V:=by omega
  refine ⟨hq,?_,?_⟩
  ·rw [e,Nat.mul_add_div hV0,Nat.div_eq_of_lt hlt]; omega
  ·rw [Nat.mod_eq_sub_mod hge,Nat.mod_eq_of_lt (by omega)]
   conv => rhs; rw [e,Nat.mul_add_mod,Nat.mod_eq_of_lt hlt]
section
variable {B:Nat}
theorem z21 (l:List Nat) (k:Nat):val B l = val B (l.take k) + B ^ (min k l.length) * val B (l.drop k):=by
 have h:=z3d (B:=B) (l.take k) (l.drop k)
 rw [List.take_append_drop,List.length_take] at h
 exact h
theorem zr8 (_hB:0 < B) {l:List Nat} {n:Nat} (hl:l.length = n + 1) (hn:2 ≤ n):val B l = ((dg l n * B + dg l (n - 1)) * B + dg l (n - 2)) * B ^ (n - 2) + val B (l.take (n - 2)):=by
 obtain ⟨m,rfl⟩:∃ m,n = m + 2:=⟨n - 2,by omega⟩
 rw [z21 l m,show min m l.length = m by omega,z1b l m,z1b l (m + 1),z1b l (m + 1 + 1)]
 have e:l.drop (m + 1 + 1 + 1) = []:=List.drop_eq_nil_of_le (by omega)
 rw [e,show m + 2 - 1 = m + 1 by omega,show m + 2 - 2 = m by omega,show m + 1 + 1 = m + 2 by omega,show val B ([]:List Nat) = 0 from rfl]
 rw [Nat.mul_zero,Nat.add_zero,Nat.mul_comm (B ^ m),Nat.add_comm (val B _)]
 congr 1
 rw [Nat.add_comm (dg l m),Nat.mul_comm B,Nat.add_comm (dg l (m + 1)),Nat.mul_comm B,Nat.add_zero]
theorem zr9 {l:List Nat} {n:Nat} (hl:l.length = n) (hn:2 ≤ n):val B l = (dg l (n - 1) * B + dg l (n - 2)) * B ^ (n - 2) + val B (l.take (n - 2)):=by
 obtain ⟨m,rfl⟩:∃ m,n = m + 2:=⟨n - 2,by omega⟩
 rw [z21 l m,show min m l.length = m by omega,z1b l m,z1b l (m + 1)]
 have e:l.drop (m + 1 + 1) = []:=List.drop_eq_nil_of_le (by omega)
 rw [e,show m + 2 - 1 = m + 1 by omega,show m + 2 - 2 = m by omega,show val B ([]:List Nat) = 0 from rfl]
 rw [Nat.mul_zero,Nat.add_zero,Nat.mul_comm (B ^ m),Nat.add_comm (val B _)]
 congr 1
 rw [Nat.add_comm (dg l m),Nat.mul_comm B]
theorem zhl (hB:2 ≤ B) {us vs:List Nat} {n q r:Nat} (hus:∀ z ∈ us,z < B) (hvs:∀ z ∈ vs,z < B) (hu:us.length = n + 1) (hv:vs.length = n) (hn:2 ≤ n) (hV1:0 < dg vs (n - 1)) (hUV:val B us < B * val B vs)
  (ht:r + q * dg vs (n - 1) = dg us n * B + dg us (n - 1)) (hqB:q < B) (hc:q * dg vs (n - 2) ≤ r * B + dg us (n - 2)) (hok:z8a B (dg us n * B + dg us (n - 1)) (dg us (n - 2)) (dg vs (n - 1)) (dg vs (n - 2)) q) :
  val B us < (q + 1) * val B vs ∧ q * val B vs ≤ val B us + val B vs:=by
 have e1:=zr8 (by omega:0 < B) hu hn
 have e2:=zr9 (B:=B) hv hn
 have hP1:val B (us.take (n - 2)) < B ^ (n - 2):=by
  have h:=z1k (B:=B) (us.take (n - 2)) (fun z hz => hus z (List.mem_of_mem_take hz))
  rwa [List.length_take,show min (n - 2) us.length = n - 2 by omega] at h
 have hP2:val B (vs.take (n - 2)) < B ^ (n - 2):=by
  have h:=z1k (B:=B) (vs.take (n - 2)) (fun z hz => hvs z (List.mem_of_mem_take hz))
  rwa [List.length_take,show min (n - 2) vs.length = n - 2 by omega] at h
 have hd:=zkb ht hc
 have hV2:B ≤ dg vs (n - 1) * B + dg vs (n - 2):=by
  have:=Nat.le_mul_of_pos_left B hV1
  omega
 refine ⟨?_,?_⟩
 ·rcases hok with h | h
  ·refine Nat.lt_of_lt_of_le hUV (Nat.mul_le_mul_right _ h)
  ·rw [e1,e2]
   exact zr6 hP1 h
 ·rw [e1,e2]
  exact zml hP2 hd (Nat.le_of_lt hqB) hV2
theorem zir {ps us vs:List Nat} {q i b c x u d b' c':Nat} (hl:ps.length = i) (h:val B ps + q * val B (vs.take i) = val B (us.take i) + B ^ i * (b + c)) (hx:dg vs i = x) (hu:dg us i = u) (he:b + c + q * x + d = u + B * (b' + c')) :
  val B (ps ++ [d]) + q * val B (vs.take (i + 1)) = val B (us.take (i + 1)) + B ^ (i + 1) * (b' + c'):=by
 rw [z57,hl,z1s,z1s,hx,hu,Nat.pow_succ,Nat.mul_assoc (B ^ i) B,Nat.mul_add q]
 have h1:B ^ i * (b + c + q * x + d) = B ^ i * (u + B * (b' + c')):=by rw [he]
 rw [Nat.mul_add,Nat.mul_add (B ^ i) (b + c),Nat.mul_add (B ^ i) u,Nat.mul_left_comm (B ^ i) q x] at h1
 omega
theorem zmm {ps us vs:List Nat} {i c u x:Nat} (hl:ps.length = i) (h:val B ps + B ^ i * c = val B (us.take i) + val B (vs.take i)) (hx:dg vs i = x) (hu:dg us i = u) :
  val B (ps ++ [(c + u + x) % B]) + B ^ (i + 1) * ((c + u + x) / B) = val B (us.take (i + 1)) + val B (vs.take (i + 1)):=by
 rw [z57,hl,z1s,z1s,hx,hu,Nat.pow_succ,Nat.mul_assoc (B ^ i) B]
 have h1:B ^ i * (B * ((c + u + x) / B) + (c + u + x) % B) = B ^ i * (c + u + x):=by rw [Nat.div_add_mod]
 rw [Nat.mul_add,Nat.mul_add,Nat.mul_add] at h1
 omega
structure NDivAt (B A V n:Nat) (u qs:List Nat) (j:Nat):Prop where
 sum:val B u + B ^ j * (V * val B (qs.drop j)) = A
 low:val B (u.drop j) < V
def z2p (u:List Nat) (k n:Nat):List Nat:=(u.drop k).take (n + 1)
def putL (u:List Nat) (k:Nat) (ps:List Nat):List Nat:=u.take k ++ ps ++ u.drop (k + ps.length)
theorem z40 {u:List Nat} {k n:Nat} (h:k + n < u.length):(z2p u k n).length = n + 1:=by
 unfold z2p
 rw [List.length_take,List.length_drop]
 omega
theorem zb5 {u:List Nat} {k n i:Nat} (hi:i < n + 1):dg (z2p u k n) i = dg u (k + i):=by
 unfold z2p dg
 rw [List.getElem?_take,if_pos hi,List.getElem?_drop]
theorem zdv {u ps:List Nat} {k:Nat} (h:k + ps.length ≤ u.length):(putL u k ps).length = u.length:=by
 unfold putL
 rw [List.length_append,List.length_append,List.length_take,List.length_drop]
 omega
theorem zdw (hB:2 ≤ B) {u:List Nat} {k n V:Nat} (hu:∀ z ∈ u,z < B) (hk:k + n < u.length) (hV:V < B ^ n) (hlow:val B (u.drop (k + 1)) < V) :
  val B u = val B (u.take k) + B ^ k * val B (z2p u k n) ∧ val B (z2p u k n) < B * V ∧ ∀ i,k + n < i → dg u i = 0:=by
 have h1:=z21 (B:=B) u k
 rw [show min k u.length = k by omega] at h1
 have h2:=z21 (B:=B) (u.drop (k + 1)) n
 rw [List.length_drop,show min n (u.length - (k + 1)) = n by omega,List.drop_drop] at h2
 have h3:val B (u.drop (k + 1 + n)) = 0:=by
  rcases Nat.eq_zero_or_pos (val B (u.drop (k + 1 + n))) with h | h
  ·exact h
  ·have:=Nat.le_mul_of_pos_right (B ^ n) h
   omega
 have h4:val B (z2p u k n) = val B (u.drop k):=by
  have h5:=z21 (B:=B) (u.drop k) (n + 1)
  rw [List.drop_drop,show k + (n + 1) = k + 1 + n by omega,h3,Nat.mul_zero,Nat.add_zero] at h5
  exact h5.symm
 refine ⟨by rw [h4]; exact h1,?_,?_⟩
 ·rw [h4,z1b u k]
  have h5:=zk4 (by omega:0 < B) hu k
  have h6:B * (val B (u.drop (k + 1)) + 1) ≤ B * V:=Nat.mul_le_mul_left B hlow
  rw [Nat.mul_add,Nat.mul_one] at h6
  omega
 ·intro i hi
  have h5:=z83 (by omega:0 < B) (l:=u.drop (k + 1 + n)) (k:=0) (by rw [h3]; simp) (i - (k + 1 + n)) (Nat.zero_le _)
  by_cases hl:i < u.length
  ·have h6:=h5 (by rw [List.length_drop]; omega)
   unfold dg at h6 ⊢
   rw [List.getElem?_drop,show k + 1 + n + (i - (k + 1 + n)) = i by omega] at h6
   exact h6
  ·exact z2n (by omega)
theorem zfg (hB:2 ≤ B) {A V n k:Nat} {u qs ps:List Nat} (hu:∀ z ∈ u,z < B) (hk:k + n < u.length) (hkq:k < qs.length) (hV:V < B ^ n) (h:NDivAt B A V n u qs (k + 1)) (hps:ps.length = n + 1) (hpv:val B ps = val B (z2p u k n) % V) (hV0:0 < V) :
  NDivAt B A V n (putL u k ps) (qs.set k (val B (z2p u k n) / V)) k:=by
 obtain ⟨h1,h2⟩:=h
 obtain ⟨p1,p2,p3⟩:=zdw hB hu hk hV h2
 have hmd:=Nat.div_add_mod (val B (z2p u k n)) V
 have hup:val B (u.drop (k + ps.length)) = 0:=by
  have h3:∀ z ∈ u.drop (k + ps.length),z = 0:=fun z hz => by
   obtain ⟨i,hi⟩:=List.getElem?_of_mem hz
   rw [List.getElem?_drop] at hi
   have h4:=p3 (k + ps.length + i) (by omega)
   rwa [z0o hi] at h4
  have h5:u.drop (k + ps.length) = List.replicate (u.drop (k + ps.length)).length 0:=List.eq_replicate_iff.2 ⟨rfl,h3⟩
  rw [h5,z5s]
 have hq1:(qs.set k (val B (z2p u k n) / V)).drop k = (val B (z2p u k n) / V) :: qs.drop (k + 1):=by
  rw [List.drop_set,if_neg (Nat.lt_irrefl k),Nat.sub_self,List.drop_eq_getElem_cons hkq,List.set_cons_zero]
 have hput:val B (putL u k ps) = val B (u.take k) + B ^ k * val B ps:=by
  unfold putL
  rw [z3d,z3d,hup,Nat.mul_zero,Nat.add_zero,List.length_take,show min k u.length = k by omega]
 refine ⟨?_,?_⟩
 ·rw [hq1,hput,hpv,show val B ((val B (z2p u k n) / V) :: qs.drop (k + 1)) = val B (z2p u k n) / V + B * val B (qs.drop (k + 1)) from rfl]
  rw [← h1,p1,Nat.pow_succ]
  generalize val B (z2p u k n) / V = q at hmd ⊢
  generalize val B (z2p u k n) % V = r at hmd ⊢
  generalize val B (qs.drop (k + 1)) = t
  rw [← hmd,Nat.mul_add V,Nat.mul_add (B ^ k),Nat.mul_add (B ^ k),Nat.mul_assoc (B ^ k) B,Nat.mul_left_comm B V]
  omega
 ·have hd:(putL u k ps).drop k = ps ++ u.drop (k + ps.length):=by
   unfold putL
   rw [List.append_assoc,List.drop_append_of_le_length (by rw [List.length_take]; omega),List.drop_take,Nat.sub_self,List.take_zero,List.nil_append]
  rw [hd,z3d,hup,Nat.mul_zero,Nat.add_zero,hpv]
  exact Nat.mod_lt _ hV0
theorem zmn {A V n:Nat} {u qs:List Nat} (hV0:0 < V) (h:NDivAt B A V n u qs 0):val B qs = A / V ∧ val B u = A % V:=by
 obtain ⟨h1,h2⟩:=h
 rw [Nat.pow_zero,Nat.one_mul,List.drop_zero] at h1
 rw [List.drop_zero] at h2
 rw [← h1,Nat.add_comm,Nat.mul_add_div hV0,Nat.div_eq_of_lt h2,Nat.mul_add_mod,Nat.mod_eq_of_lt h2]
 exact ⟨rfl,rfl⟩
end
theorem zkc {a b c:Nat} (hc:0 < c):a * c / (b * c) = a / b ∧ a * c % (b * c) = a % b * c:=⟨Nat.mul_div_mul_right a b hc,Nat.mul_mod_mul_right c a b⟩
end
section
open Go.RowKit
structure Later (w:World) where
 w':World
 h:Ext w w'
instance (w:World):Nonempty (Later w):=⟨⟨w,Ext.refl w⟩⟩
instance (w:World):Inhabited (Later w):=⟨⟨w,Ext.refl w⟩⟩
theorem z03 {P:Program} {id:Nat} {Q:Exit → Act → World → Prop} {a:Act} {w:World} {l:List Oper} (hm:P.follows .mixedOrders = true) (hB:Region.lexB .any l.toArray = true)
  (h:wpQuiet P l.toArray (fun W => ∃ X:Later w,W = X.w') (fun a' => ∀ W,Ext w W → Q .normal a' W) l a):(Code.region id l.toArray true).wp P Q a w:=by
 refine wp_region_quiet (C:=fun W => ∃ X:Later w,W = X.w') hm hB ⟨⟨{ w with drawn:=w.drawn + 1 },rfl,rfl,rfl,Nat.le_refl _,fun _ _ => rfl⟩,rfl⟩ ?_
 have e:(fun a':Act => ∀ W,(∃ X:Later w,W = X.w') → Q .normal a' W) = (fun a':Act => ∀ W,Ext w W → Q .normal a' W):=by
  funext a'
  refine propext ⟨fun k W hW => k W ⟨⟨W,hW⟩,rfl⟩,?_⟩
  rintro k W ⟨X,rfl⟩
  exact k _ X.h
 rw [e]
 exact h
theorem Later.done {P:Program} {f:FuncId} {args:Array Value} {w:World} {X:Later w} {v:Value}
  (h:Calls P f args X.w' fun e w' => e = .returned v ∧ Ext X.w' w'):Calls P f args X.w' fun e w'' => e = .returned v ∧ ∃ Y:Later w,w'' = Y.w' :=
 h.mono fun _ W ⟨he,hm⟩ => ⟨he,⟨W,X.h.trans hm⟩,rfl⟩
theorem Later.cell {w:World} (X:Later w) {b i:Nat} {v:Value} (hc:w.cell? ⟨b,i,none⟩ = some v):X.w'.cell? ⟨b,i,none⟩ = some v:=X.h.cell hc
end
section
open Go.RowKit
theorem z7e (n:Int) (h₀:0 ≤ n) (h₁:n < 2 ^ 64):IntKind.u64.wrap n = n:=by rw [IntKind.wrap_u64]; omega
theorem z0w {n:Nat} (h:n < 18446744073709551616):IntKind.u64.wrap (n:Int) = (n:Int):=by rw [IntKind.wrap_u64]; omega
theorem zan (x y:Nat) (hx:x < 4294967296) (hy:y < 4294967296):bits .or .u64 ((x:Int) * 4294967296) (y:Int) = ((x * 4294967296 + y:Nat):Int):=by
 have h:=bits_join .u64 64 (by decide) z7e 32 ((x:Int) * 4294967296) (y:Int) (by omega) (by show (x:Int) * 4294967296 % 4294967296 = 0; omega) (by show (x:Int) * 4294967296 < 18446744073709551616; omega) (by omega) (by show (y:Int) < 4294967296; omega) (by show (y:Int) < 18446744073709551616; omega)
 rw [h]
 omega
theorem zmo {S:Nat → Prop} (vu vv:Value) (us vs:List Nat) (m:Nat) (w:World) (hu:U32s S w vu us) (hv:U32s S w vv vs) (_hS:∀ k,S k → k < w.heap.size) (lu:us.length = m + 3) (lv:vs.length = m + 2)
  (hV1:2147483648 ≤ dg vs (m + 1)) (hle:dg us (m + 2) ≤ dg vs (m + 1)) :
  Calls Tryz.prog 153 #[vu,vv] w fun e w' => ∃ q r:Nat,e = .returned (.int .u64 (q:Nat)) ∧ Ext w w' ∧ q < B32 ∧ r + q * dg vs (m + 1) = dg us (m + 2) * B32 + dg us (m + 1) ∧ q * dg vs m ≤ r * B32 + dg us m ∧
   z8a B32 (dg us (m + 2) * B32 + dg us (m + 1)) (dg us m) (dg vs (m + 1)) (dg vs m) q:=by
 obtain ⟨u0,hu0⟩:=z01 (l:=us) (j:=m + 2) (by omega)
 obtain ⟨u1,hu1⟩:=z01 (l:=us) (j:=m + 1) (by omega)
 obtain ⟨u2,hu2⟩:=z01 (l:=us) (j:=m) (by omega)
 obtain ⟨v1,hv1⟩:=z01 (l:=vs) (j:=m + 1) (by omega)
 obtain ⟨v2,hv2⟩:=z01 (l:=vs) (j:=m) (by omega)
 rw [z0o hu0,z0o hu1,z0o hu2,z0o hv1,z0o hv2]
 rw [z0o hv1] at hV1 hle
 rw [z0o hu0] at hle
 have hfu:=hu.len_le
 obtain ⟨au,cu,rfl⟩:=hu.form
 obtain ⟨av,cv,rfl⟩:=hv.form
 obtain ⟨bu,ou,rfl,-,hn1,hm1,-,xu0,k0⟩:=hu.cellAt hu0
 obtain ⟨b',o',e1,-,-,-,-,xu1,k1⟩:=hu.cellAt hu1
 obtain ⟨rfl,rfl⟩:bu = b' ∧ ou = o':=by simpa using e1
 obtain ⟨b',o',e2,-,-,-,-,xu2,k2⟩:=hu.cellAt hu2
 obtain ⟨rfl,rfl⟩:bu = b' ∧ ou = o':=by simpa using e2
 obtain ⟨bv,ov,rfl,-,hn2,hm2,-,xv1,k3⟩:=hv.cellAt hv1
 obtain ⟨b',o',e3,-,-,-,-,xv2,k4⟩:=hv.cellAt hv2
 obtain ⟨rfl,rfl⟩:bv = b' ∧ ov = o':=by simpa using e3
 rw [lu] at hn1 hfu ⊢
 rw [lv] at hn2 ⊢
 have HK:=hid (And.intro k0 (And.intro k1 (And.intro k2 (And.intro k3 k4))))
 have q1:((m + 2:Nat):Int) - 1 = ((m + 1:Nat):Int):=by omega
 have q2:((m + 2:Nat):Int) - 2 = (m:Int):=by omega
 clear e1 e2 e3 hu hv lu lv hu0 hu1 hu2 hv1 hv2
 go_enter Tryz.func153,Tryz.ntmps153
 go_wp2
 go_step3
 go_wp2
 go_quiet (fail)
 rw [zan _ _ xu0 xu1]
 obtain ⟨top,htop⟩:∃ t,t = u0 * 4294967296 + u1:=⟨_,rfl⟩
 have HT:=hid htop
 rw [← htop]
 have ht2:top ≤ 18446744073709551615:=by omega
 have hv0:(v1:Int) ≠ 0:=by omega
 have hq0:top / v1 < 4294967298:=Nat.div_lt_of_lt_mul (by omega)
 have HQ0:=hid hq0
 have HXS:=hid (And.intro xu0 (And.intro xu1 (And.intro xu2 (And.intro xv1 xv2))))
 clear htop
 go_wp2
 go_quiet (fail)
 go_wp2
 go_step3
 go_wp2
 go_loopw [7,8] (fun s7 s8 wr => ∃ q r:Nat,s7 = .int .u64 (q:Nat) ∧ s8 = .int .u64 (r:Nat) ∧ Ext w wr ∧ r + q * v1 = top ∧ r < 4294967296 ∧ q ≤ 4294967297 ∧ z8a B32 top u2 v1 v2 q) (fun s7 _ _ => (intOf s7).toNat)
 case atStart =>
  refine ⟨top / v1,top % v1,congrArg (Value.int .u64) (z0w (n:=top / v1) (by omega)),rfl,((Ext.refl w).drewN _).drewN _,?_,?_,by omega,zhk xu2 (by omega)⟩
  ·have:=Nat.div_add_mod top v1
   rw [Nat.mul_comm]
   omega
  ·have:=Nat.mod_lt top (show 0 < v1 by omega)
   omega
 case round =>
  obtain ⟨q,r,rfl,rfl,hx,ht,hr,hq,hok⟩:=hrel
  have k0:=hx.cell HK.out.1
  have k1:=hx.cell HK.out.2.1
  have k2:=hx.cell HK.out.2.2.1
  have k3:=hx.cell HK.out.2.2.2.1
  have k4:=hx.cell HK.out.2.2.2.2
  have HX:=hid hx
  have HTT:=hid ht
  have HOK:=hid hok
  have HR:=hid (And.intro hr hq)
  clear hx ht hok hr hq
  by_cases h1:4294967296 ≤ q
  ·have g1:decide ((4294967296:Int) ≤ (q:Int)) = true:=decide_eq_true (by omega)
   have H1:=hid h1
   clear h1
   go_wp2
   refine z03 (by kernel_rfl) (by kernel_rfl) ?_
   repeat (go_big_quiet_step (fail))
   refine wpQuiet_nil ?_
   intro w4 hx4
   have h1:=H1.out
   have HC:=hid (zd2 (B:=B32) (u2:=u2) (v2:=v2) HTT.out (by omega) (.inl h1))
   have HX4:=hid (HX.out.trans hx4)
   have k3:=hx4.cell k3
   have hq1:(1:Int) ≤ (q:Int):=by omega
   have hq2:(q:Int) ≤ 4294967297:=by have:=HR.out.2; omega
   have hr1:(r:Int) < 4294967296:=by have:=HR.out.1; omega
   have HD:=hid (zff HTT.out (by omega))
   clear hx4 g1 h1
   by_cases h3:(4294967296:Int) ≤ (r:Int) + (v1:Int)
   ·go_wp2
    all_goals
     rw [Exit.noGoto_ret]
     go_ret
     obtain ⟨z1,z2⟩:=zb4 (u2:=u2) (v2:=v2) (B:=B32) HD.out HT.out hle HXS.out.2.1 HXS.out.2.2.2.2 (by show 4294967296 ≤ r + v1; omega)
     refine ⟨q - 1,r + v1,?_,HX4.out,z1,by rw [HD.out]; exact HT.out,z2,by rw [← HT.out]; exact HC.out⟩
     show Ending.returned (Value.int .u64 ((q:Int) - 1)) = _
     rw [show ((q - 1:Nat):Int) = (q:Int) - 1 by omega]
   ·go_wp2
    go_roundw
    case rel => exact ⟨q - 1,r + v1,congrArg (Value.int .u64) (by omega),congrArg (Value.int .u64) (by omega),HX4.out,HD.out,by omega,by omega,HC.out⟩
    case measure => simp only [intOf]; omega
  ·have g1:decide ((4294967296:Int) ≤ (q:Int)) = false:=decide_eq_false (by omega)
   have H1:Hid (q < 4294967296):=hid (by omega)
   obtain ⟨P,hP⟩:∃ P:Nat,P = q * v2:=⟨_,rfl⟩
   obtain ⟨T,hT⟩:∃ T:Nat,T = r * 4294967296 + u2:=⟨_,rfl⟩
   have hqv:q * v2 ≤ 4294967295 * 4294967295:=Nat.mul_le_mul (show q ≤ 4294967295 by omega) (by have:=HXS.out.2.2.2.2; omega)
   have hw:IntKind.u64.wrap ((q:Int) * (v2:Int)) = (P:Int):=by
    have e:(q:Int) * (v2:Int) = ((q * v2:Nat):Int):=(Int.natCast_mul q v2).symm
    rw [e,← hP]
    exact z0w (by omega)
   have hor:bits .or .u64 ((r:Int) * 4294967296) (u2:Int) = (T:Int):=by rw [zan r u2 HR.out.1 HXS.out.2.2.1,hT]
   have hr1:(r:Int) < 4294967296:=by have:=HR.out.1; omega
   have HP:=hid hP
   have HTd:=hid hT
   have m1:(0:Int) ≤ (m:Int) + 2 - 2:=by omega
   clear h1 hP hT hqv
   by_cases h2:T < P
   ·have L2:=fun Y:Later wr => Y.h.cell k2
    have L4:=fun Y:Later wr => Y.h.cell k4
    go_wp2
    refine z03 (by kernel_rfl) (by kernel_rfl) ?_
    repeat (go_big_quiet_step (fail))
    refine wpQuiet_nil ?_
    intro w4 hx4
    have h1:=H1.out
    have hqp:0 < q:=by
     rcases Nat.eq_zero_or_pos q with h | h
     ·have h4:=HP.out
      rw [h,Nat.zero_mul] at h4
      omega
     ·exact h
    have hcc:r * B32 + u2 < q * v2:=by have h4:=HP.out; have h5:=HTd.out; show r * 4294967296 + u2 < q * v2; omega
    have HC:=hid (zd2 (B:=B32) (u2:=u2) (v2:=v2) HTT.out hqp (.inr hcc))
    have HX4:=hid (HX.out.trans hx4)
    have k3:=hx4.cell k3
    have hq1:(1:Int) ≤ (q:Int):=by omega
    have hq2:(q:Int) ≤ 4294967297:=by have:=HR.out.2; omega
    have hr1:(r:Int) < 4294967296:=by have:=HR.out.1; omega
    have HD:=hid (zff HTT.out (by omega))
    clear hx4 g1 h1 hw hor h2 hqp hcc L2 L4
    by_cases h3:(4294967296:Int) ≤ (r:Int) + (v1:Int)
    ·go_wp2
     all_goals
      rw [Exit.noGoto_ret]
      go_ret
      obtain ⟨z1,z2⟩:=zb4 (u2:=u2) (v2:=v2) (B:=B32) HD.out HT.out hle HXS.out.2.1 HXS.out.2.2.2.2 (by show 4294967296 ≤ r + v1; omega)
      refine ⟨q - 1,r + v1,?_,HX4.out,z1,by rw [HD.out]; exact HT.out,z2,by rw [← HT.out]; exact HC.out⟩
      show Ending.returned (Value.int .u64 ((q:Int) - 1)) = _
      rw [show ((q - 1:Nat):Int) = (q:Int) - 1 by omega]
    ·go_wp2
     go_roundw
     case rel => exact ⟨q - 1,r + v1,congrArg (Value.int .u64) (by omega),congrArg (Value.int .u64) (by omega),HX4.out,HD.out,by omega,by omega,HC.out⟩
     case measure => simp only [intOf]; omega
   ·have g2:decide (T < P) = false:=decide_eq_false h2
    have L2:=fun Y:Later wr => Y.h.cell k2
    have L4:=fun Y:Later wr => Y.h.cell k4
    go_wp2
    refine z03 (by kernel_rfl) (by kernel_rfl) ?_
    repeat (go_big_quiet_step (fail))
    refine wpQuiet_nil ?_
    intro w4 hx4
    have HX4:=hid (HX.out.trans hx4)
    have hcc:q * v2 ≤ r * B32 + u2:=by have h4:=HP.out; have h5:=HTd.out; show q * v2 ≤ r * 4294967296 + u2; omega
    have HCC:=hid hcc
    clear hx4 g1 hw hor hcc L2 L4
    go_wp2
    all_goals
     rw [Exit.noGoto_ret]
     go_ret
     exact ⟨q,r,rfl,HX4.out,H1.out,by rw [HTT.out]; exact HT.out,HCC.out,by rw [← HT.out]; exact HOK.out⟩
end
end Go.Proofs.YtdcijfhkfhhfjaaGreat
