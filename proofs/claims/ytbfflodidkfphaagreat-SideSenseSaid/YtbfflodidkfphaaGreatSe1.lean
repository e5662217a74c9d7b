/- What slices of limbs, powers, terms and polynomials hold in memory, and that it stays where memory only grows. A region that draws its order, whose callees only make memory and hand back plain values: walked once, in the order of the text. Monomials as lists of powers: which may be, the exponents, the merge of two, their order. Plain. The walks of layer 7: May, the merge of two monomials, their order, product, degree, class. The merge of two monomials: each variable with both exponents is told, rising. How two numbers are ordered, how two monomials are. The order of two monomials: the program's answer. A monomial's degree in a variable, its class; the order of two, as polynomials use it. A slice of the call's own that has grown: what it holds, as powers. Numbers as lists of digits to a base, the lowest one first: their value, the canonical list. Plain. One step of the sums, differences, products and quotients that go digit by digit. Plain. The order of monomials is by exponents, the highest variable first: a total order. Plain. Polynomials as lists of a whole number and a monomial: coefficients, the canonical list, sums. Plain. Class, degree and rank of polynomials: by the lead, and by all terms. Plain. Numbers and polynomials as data, and what they mean. Plain. Limbs in memory: cut, read, made. The walks of layer 1: numbers without noughts at the end, copies. The sum of two numbers. Two numbers held against each other. The difference of two numbers. Whole numbers as the program has them: made canonical, may they be, their sign. The sum of two whole numbers. -/
import Derived.Test.YtbfflodidkfphaaGreatProg
import Derived.WalkKit
import Derived.Laws.NewBlocks
import Derived.BigQuiet
import Derived.Deep.RegionHeld3
import Derived.Deep.DrawnRows
import Derived.Shelf.Abstract
import Derived.Deep.QuietTactic
import Derived.Deep.OwnRows
import Derived.Laws.CopyOwn
set_option maxRecDepth 100000
set_option maxHeartbeats 16000000
namespace Go.Proofs.YtbfflodidkfphaaGreat
section
open Go.RowKit
theorem hid {p:Prop} (h:p):Hid p:=h
abbrev Ext (w w':World):Prop:=Below w.heap.size w w'
theorem Ext.trans {a b c:World} (h:Ext a b) (k:Ext b c):Ext a c:=Below.trans h (Below.mono k h.size)
theorem Ext.refl (w:World):Ext w w:=Below.refl _ _
theorem Ext.alloc {a w:World} (h:Ext a w) (o:Obj):Ext a (w.alloc o):=Below.alloc h h.size o
theorem z08 {w:World} {b i:Nat} {v:Value} (h:w.cell? ⟨b,i,none⟩ = some v):b < w.heap.size:=World.block_lt_of_cell? w _ h
theorem Ext.cell {w w':World} (h:Ext w w') {b i:Nat} {v:Value} (hc:w.cell? ⟨b,i,none⟩ = some v):w'.cell? ⟨b,i,none⟩ = some v :=
 (Below.cell h (p:=⟨b,i,none⟩) (z08 hc)).trans hc
theorem zst {B:Nat} {w w':World} (h:Below B w w') {b i:Nat} {v:Value} (hb:b < B) (hc:w.cell? ⟨b,i,none⟩ = some v):w'.cell? ⟨b,i,none⟩ = some v :=
 (Below.cell h (p:=⟨b,i,none⟩) hb).trans hc
theorem z02 (w:World) (cs:Array Value) (T:TypeId) {b i:Nat} {v:Value} (hb:b = w.heap.size) (h:cs[i]? = some v):(w.alloc (.cells cs T)).cell? ⟨b,i,none⟩ = some v:=by
 subst hb
 unfold World.cell?
 rw [heap_alloc_new]
 simpa using h
theorem cell_old {w:World} (o:Obj) {b i:Nat} {v:Value} (hc:w.cell? ⟨b,i,none⟩ = some v):(w.alloc o).cell? ⟨b,i,none⟩ = some v:=Ext.cell (Ext.alloc (Ext.refl w) o) hc
theorem znf {w:World} (o:Obj) {b i:Nat} (hb:b < w.heap.size) (hf:w.frozen? ⟨b,i,none⟩ = false):(w.alloc o).frozen? ⟨b,i,none⟩ = false:=(Below.frozen (Ext.alloc (Ext.refl w) o) (p:=⟨b,i,none⟩) hb).trans hf
theorem z2u {w:World} {a c:Addr} {u:Value} (hf:w.frozen? c = false):(w.setCell a u).frozen? c = false:=by simp [hf]
theorem z1c {w:World} {a:Addr} {u v:Value} (h:w.cell? a = some u):(w.setCell a v).cell? a = some v:=World.cell?_setCell_same w a v h
theorem z0b {w:World} {a:Addr} {u v:Value} {c:Addr} (h:w.cell? c = some u) (hne:a ≠ c):(w.setCell a v).cell? c = some u:=(World.cell?_setCell_other w a c v hne).trans h
theorem ao {b i j:Nat} (h:i ≠ j):(⟨b,i,none⟩:Addr) ≠ ⟨b,j,none⟩:=fun e => h (congrArg Addr.off e)
theorem ab {b c i j:Nat} (h:b ≠ c):(⟨b,i,none⟩:Addr) ≠ ⟨c,j,none⟩:=fun e => h (congrArg Addr.block e)
theorem z1n (w:World) (cs:Array Value) (T:TypeId) {i:Nat}:(w.alloc (.cells cs T)).frozen? ⟨w.heap.size,i,none⟩ = false:=by
 unfold World.frozen?
 rw [heap_alloc_new]
 simp
theorem z06 (w:World) (a:Addr) (u:Value):(w.setCell a u).heap.size = w.heap.size:=by simp [World.setCell]
theorem size_alloc (w:World) (o:Obj):(w.alloc o).heap.size = w.heap.size + 1:=by simp
theorem Ext.free {w w':World} (h:Ext w w') {b i:Nat} (hb:b < w.heap.size) (hf:w.frozen? ⟨b,i,none⟩ = false):w'.frozen? ⟨b,i,none⟩ = false:=(Below.frozen h (p:=⟨b,i,none⟩) hb).trans hf
structure RInt where
 neg:Bool
 mag:List Nat
 deriving DecidableEq,Inhabited
structure RTerm where
 c:RInt
 m:List (Int × Int)
 deriving DecidableEq,Inhabited
def Kept (S:Nat → Prop) (w w':World):Prop:=∀ k,S k → w'.heap[k]? = w.heap[k]?
theorem Kept.cell {S:Nat → Prop} {w w':World} (h:Kept S w w') {b i:Nat} {v:Value} (hb:S b) (hc:w.cell? ⟨b,i,none⟩ = some v):w'.cell? ⟨b,i,none⟩ = some v :=
 (World.cell?_of_block (w:=w) (h b hb)).trans hc
theorem Kept.refl (S:Nat → Prop) (w:World):Kept S w w:=fun _ _ => rfl
theorem Kept.trans {S:Nat → Prop} {a b c:World} (h:Kept S a b) (k:Kept S b c):Kept S a c:=fun i hi => (k i hi).trans (h i hi)
theorem Kept.of_below {B:Nat} {w w':World} (h:Below B w w'):Kept (· < B) w w':=fun k hk => h.block k hk
theorem Kept.mono {S S':Nat → Prop} {w w':World} (h:Kept S w w') (hs:∀ k,S' k → S k):Kept S' w w':=fun k hk => h k (hs k hk)
theorem Kept.setCell {S:Nat → Prop} {w:World} {a:Addr} (h:¬ S a.block) (u:Value):Kept S w (w.setCell a u) :=
 fun _ hk => Below.heap_setCell _ _ _ _ (fun e => h (e ▸ hk))
theorem Kept.grown {S:Nat → Prop} {w w':World} {row:Option Nat} (h:w.grownBy w' row) (hs:∀ k,S k → k < w.heap.size ∧ some k ≠ row):Kept S w w' :=
 fun k hk => h.block k (hs k hk).1 (hs k hk).2
theorem Kept.alloc {S:Nat → Prop} {w:World} (h:∀ k,S k → k < w.heap.size) (o:Obj):Kept S w (w.alloc o):=fun k hk => Below.heap_alloc _ _ _ (h k hk)
def z31 (S:Nat → Prop) (v:Value) (n:Nat) (b off:Nat):Prop :=
 ∃ a cap,v = .slice a n cap ∧ n ≤ cap ∧ cap ≤ maxLen ∧ (0 < n → a = some ⟨b,off,none⟩) ∧ (0 < n → S b)
def U32s (S:Nat → Prop) (w:World) (v:Value) (zs:List Nat):Prop :=
 ∃ b off,z31 S v zs.length b off ∧ ∀ j z,zs[j]? = some z → z < 4294967296 ∧ w.cell? ⟨b,off + j,none⟩ = some (.int .u32 (z:Nat))
def Pows (S:Nat → Prop) (w:World) (v:Value) (ps:List (Int × Int)):Prop :=
 ∃ b off,z31 S v ps.length b off ∧ ∀ j x,ps[j]? = some x → ((-9223372036854775808 ≤ x.1 ∧ x.1 ≤ 9223372036854775807) ∧ -9223372036854775808 ≤ x.2 ∧ x.2 ≤ 9223372036854775807) ∧
  w.cell? ⟨b,off + j * 2,none⟩ = some (.int .i64 x.1) ∧ w.cell? ⟨b,off + j * 2 + 1,none⟩ = some (.int .i64 x.2)
def z0h (S:Nat → Prop) (w:World) (v:Value) (ts:List RTerm):Prop :=
 ∃ b off,z31 S v ts.length b off ∧ ∀ j t,ts[j]? = some t → ∃ vm vo,w.cell? ⟨b,off + j * 3,none⟩ = some (.bool t.c.neg) ∧
  w.cell? ⟨b,off + j * 3 + 1,none⟩ = some vm ∧ w.cell? ⟨b,off + j * 3 + 2,none⟩ = some vo ∧ U32s S w vm t.c.mag ∧ Pows S w vo t.m
def z6r (S:Nat → Prop) (w:World) (v:Value) (l:List (List RTerm)):Prop :=
 ∃ b off,z31 S v l.length b off ∧ ∀ j p,l[j]? = some p → ∃ vp,w.cell? ⟨b,off + j,none⟩ = some vp ∧ z0h S w vp p
theorem z03 {α:Type} {l:List α} {j:Nat} {x:α} (h:l[j]? = some x):j < l.length:=(List.getElem?_eq_some_iff.1 h).1
theorem z00 {α:Type} {l:List α} {j:Nat} (h:j < l.length):∃ x,l[j]? = some x:=⟨l[j],List.getElem?_eq_getElem h⟩
theorem z31.mono {S S':Nat → Prop} {v:Value} {n b off:Nat} (h:z31 S v n b off) (hS:∀ k,S k → S' k):z31 S' v n b off:=by
 obtain ⟨a,cap,h1,h2,h3,h4,h5⟩:=h
 exact ⟨a,cap,h1,h2,h3,h4,fun x => hS _ (h5 x)⟩
theorem z31.in {S:Nat → Prop} {v:Value} {n b off:Nat} (h:z31 S v n b off) {j:Nat} (hj:j < n):S b:=by
 obtain ⟨a,cap,h1,h2,h3,h4,h5⟩:=h
 exact h5 (by omega)
theorem U32s.form {S:Nat → Prop} {w:World} {v:Value} {zs:List Nat} (h:U32s S w v zs):∃ a cap,v = .slice a zs.length cap:=by
 obtain ⟨b,off,⟨a,cap,h1,_⟩,_⟩:=h
 exact ⟨a,cap,h1⟩
theorem Pows.form {S:Nat → Prop} {w:World} {v:Value} {zs:List (Int × Int)} (h:Pows S w v zs):∃ a cap,v = .slice a zs.length cap:=by
 obtain ⟨b,off,⟨a,cap,h1,_⟩,_⟩:=h
 exact ⟨a,cap,h1⟩
theorem z0h.form {S:Nat → Prop} {w:World} {v:Value} {zs:List RTerm} (h:z0h S w v zs):∃ a cap,v = .slice a zs.length cap:=by
 obtain ⟨b,off,⟨a,cap,h1,_⟩,_⟩:=h
 exact ⟨a,cap,h1⟩
section
variable {S S':Nat → Prop} {w w':World} {v:Value}
theorem U32s.to {zs:List Nat} (h:U32s S w v zs) (hk:Kept S w w') (hS:∀ k,S k → S' k):U32s S' w' v zs:=by
 obtain ⟨b,off,hs,hc⟩:=h
 exact ⟨b,off,hs.mono hS,fun j z hz => ⟨(hc j z hz).1,hk.cell (hs.in (z03 hz)) (hc j z hz).2⟩⟩
theorem Pows.to {ps:List (Int × Int)} (h:Pows S w v ps) (hk:Kept S w w') (hS:∀ k,S k → S' k):Pows S' w' v ps:=by
 obtain ⟨b,off,hs,hc⟩:=h
 exact ⟨b,off,hs.mono hS,fun j x hj => ⟨(hc j x hj).1,hk.cell (hs.in (z03 hj)) (hc j x hj).2.1,hk.cell (hs.in (z03 hj)) (hc j x hj).2.2⟩⟩
theorem z0h.to {ts:List RTerm} (h:z0h S w v ts) (hk:Kept S w w') (hS:∀ k,S k → S' k):z0h S' w' v ts:=by
 obtain ⟨b,off,hs,hc⟩:=h
 refine ⟨b,off,hs.mono hS,fun j t hj => ?_⟩
 obtain ⟨vm,vo,h1,h2,h3,h4,h5⟩:=hc j t hj
 have hb:=hs.in (z03 hj)
 exact ⟨vm,vo,hk.cell hb h1,hk.cell hb h2,hk.cell hb h3,h4.to hk hS,h5.to hk hS⟩
theorem z6r.to {l:List (List RTerm)} (h:z6r S w v l) (hk:Kept S w w') (hS:∀ k,S k → S' k):z6r S' w' v l:=by
 obtain ⟨b,off,hs,hc⟩:=h
 refine ⟨b,off,hs.mono hS,fun j p hj => ?_⟩
 obtain ⟨vp,h1,h2⟩:=hc j p hj
 exact ⟨vp,hk.cell (hs.in (z03 hj)) h1,h2.to hk hS⟩
end
end
section
open Go.RowKit
structure Later (w:World) where
 w':World
 h:Ext w w'
instance (w:World):Nonempty (Later w):=⟨⟨w,Ext.refl w⟩⟩
instance (w:World):Inhabited (Later w):=⟨⟨w,Ext.refl w⟩⟩
theorem z04 {P:Program} {id:Nat} {Q:Exit → Act → World → Prop} {a:Act} {w:World} {l:List Oper} (hm:P.follows .mixedOrders = true) (hB:Region.lexB .any l.toArray = true)
  (h:wpQuiet P l.toArray (fun W => ∃ X:Later w,W = X.w') (fun a' => ∀ W,Ext w W → Q .normal a' W) l a):(Code.region id l.toArray true).wp P Q a w:=by
 refine wp_region_quiet (C:=fun W => ∃ X:Later w,W = X.w') hm hB ⟨⟨{ w with drawn:=w.drawn + 1 },rfl,rfl,rfl,Nat.le_refl _,fun _ _ => rfl⟩,rfl⟩ ?_
 have e:(fun a':Act => ∀ W,(∃ X:Later w,W = X.w') → Q .normal a' W) = (fun a':Act => ∀ W,Ext w W → Q .normal a' W):=by
  funext a'
  refine propext ⟨fun k W hW => k W ⟨⟨W,hW⟩,rfl⟩,?_⟩
  rintro k W ⟨X,rfl⟩
  exact k _ X.h
 rw [e]
 exact h
theorem Later.done {P:Program} {f:FuncId} {args:Array Value} {w:World} {X:Later w} {v:Value}
  (h:Calls P f args X.w' fun e w' => e = .returned v ∧ Ext X.w' w'):Calls P f args X.w' fun e w'' => e = .returned v ∧ ∃ Y:Later w,w'' = Y.w' :=
 h.mono fun _ W ⟨he,hm⟩ => ⟨he,⟨W,X.h.trans hm⟩,rfl⟩
theorem Later.cell {w:World} (X:Later w) {b i:Nat} {v:Value} (hc:w.cell? ⟨b,i,none⟩ = some v):X.w'.cell? ⟨b,i,none⟩ = some v:=X.h.cell hc
end
section
abbrev Mono:=List (Int × Int)
def z0e (last:Int):Mono → Bool
 | [] => true
 | x :: r => decide (last < x.1 ∧ x.1 ≤ 200 ∧ 1 ≤ x.2 ∧ x.2 ≤ 10000) && z0e x.1 r
def mayM (m:Mono):Bool:=z0e 0 m
def ex:Mono → Int → Int
 | [],_ => 0
 | x :: r,v => if x.1 = v then x.2 else ex r v
def z3w:Nat → Mono → Mono → List (Int × Int × Int)
 | 0,_,_ => []
 | _ + 1,[],[] => []
 | n + 1,x :: a,[] => (x.1,x.2,0) :: z3w n a []
 | n + 1,[],y :: b => (y.1,0,y.2) :: z3w n [] b
 | n + 1,x :: a,y :: b => if x.1 < y.1 then (x.1,x.2,0) :: z3w n a (y :: b) else if y.1 < x.1 then (y.1,0,y.2) :: z3w n (x :: a) b else (x.1,x.2,y.2) :: z3w n a b
def both (a b:Mono):List (Int × Int × Int):=z3w (a.length + b.length) a b
theorem z64 (n m:Nat) (a b:Mono) (h:a.length + b.length ≤ n) (h':a.length + b.length ≤ m):z3w n a b = z3w m a b:=by
 induction n generalizing m a b with
 | zero =>
  obtain rfl:a = []:=List.length_eq_zero_iff.1 (by omega)
  obtain rfl:b = []:=List.length_eq_zero_iff.1 (by omega)
  cases m <;> rfl
 | succ n ih =>
  cases m with
  | zero =>
   obtain rfl:a = []:=List.length_eq_zero_iff.1 (by omega)
   obtain rfl:b = []:=List.length_eq_zero_iff.1 (by omega)
   rfl
  | succ m =>
   cases a with
   | nil =>
    cases b with
    | nil => rfl
    | cons y b =>
     simp only [List.length_nil,List.length_cons] at h h'
     simp only [z3w]
     rw [ih m [] b (by simp; omega) (by simp; omega)]
   | cons x a =>
    cases b with
    | nil =>
     simp only [List.length_nil,List.length_cons] at h h'
     simp only [z3w]
     rw [ih m a [] (by simp; omega) (by simp; omega)]
    | cons y b =>
     simp only [List.length_cons] at h h'
     simp only [z3w]
     rw [ih m a (y :: b) (by simp; omega) (by simp; omega),ih m (x :: a) b (by simp; omega) (by simp; omega),ih m a b (by omega) (by omega)]
theorem z72:both [] [] = []:=rfl
theorem z73 (x:Int × Int) (a:Mono):both (x :: a) [] = (x.1,x.2,0) :: both a []:=by
 unfold both
 rw [z64 _ (a.length + 1) _ _ (Nat.le_refl _) (by simp)]
 rfl
theorem z65 (y:Int × Int) (b:Mono):both [] (y :: b) = (y.1,0,y.2) :: both [] b:=by
 unfold both
 rw [z64 _ (b.length + 1) _ _ (Nat.le_refl _) (by simp)]
 simp [z3w]
theorem z74 (x y:Int × Int) (a b:Mono):both (x :: a) (y :: b) = if x.1 < y.1 then (x.1,x.2,0) :: both a (y :: b) else if y.1 < x.1 then (y.1,0,y.2) :: both (x :: a) b else (x.1,x.2,y.2) :: both a b:=by
 unfold both
 rw [z64 _ (a.length + b.length + 1 + 1) _ _ (Nat.le_refl _) (by simp; omega)]
 simp only [z3w]
 rw [z64 _ (a.length + (y :: b).length) a (y :: b) (by simp; omega) (Nat.le_refl _),z64 _ ((x :: a).length + b.length) (x :: a) b (by simp; omega) (Nat.le_refl _),z64 _ (a.length + b.length) a b (by omega) (Nat.le_refl _)]
theorem zng (a b:Mono):(both a b).length ≤ a.length + b.length:=by
 unfold both
 generalize hn:a.length + b.length = n
 have h:∀ n (a b:Mono),(z3w n a b).length ≤ n:=by
  intro n
  induction n with
  | zero => intro a b; simp [z3w]
  | succ n ih =>
   intro a b
   cases a with
   | nil =>
    cases b with
    | nil => simp [z3w]
    | cons y b => simp only [z3w,List.length_cons]; have:=ih [] b; omega
   | cons x a =>
    cases b with
    | nil => simp only [z3w,List.length_cons]; have:=ih a []; omega
    | cons y b =>
     simp only [z3w]
     have h1:=ih a (y :: b)
     have h2:=ih (x :: a) b
     have h3:=ih a b
     split
     ·simp only [List.length_cons]; omega
     ·split <;> (simp only [List.length_cons]; omega)
 exact h n a b
def cmpI (x y:Int):Int:=if x < y then -1 else if y < x then 1 else 0
def cmpL:List (Int × Int × Int) → Int → Int
 | [],c => c
 | t :: r,c => cmpL r (if t.2.1 = t.2.2 then c else cmpI t.2.1 t.2.2)
def z0i (a b:Mono):Int:=cmpL (both a b) 0
def z3r (f:Int → Int → Int):List (Int × Int × Int) → Mono
 | [] => []
 | t :: r => if 0 < f t.2.1 t.2.2 then (t.1,f t.2.1 t.2.2) :: z3r f r else z3r f r
def z1b (a b:Mono):Mono:=z3r (· + ·) (both a b)
def z3e (a b:Mono):Int:=if mayM a && mayM b then z0i a b else 0
def z2q (m:Mono):Mono:=if mayM m then m else []
end
section
open Go.RowKit
theorem Pows.len_le {S:Nat → Prop} {w:World} {v:Value} {zs:Mono} (h:Pows S w v zs):zs.length ≤ 9223372036854775807:=by
 obtain ⟨b,off,⟨a,cap,h1,h2,h3,_⟩,_⟩:=h
 unfold maxLen at h3
 omega
theorem Pows.cons {S:Nat → Prop} {w:World} {v:Value} {x:Int × Int} {r:Mono} (h:Pows S w v (x :: r)) :
  ∃ b off n cap,v = .slice (some ⟨b,off,none⟩) (n + 1) cap ∧ n = r.length ∧ n + 1 ≤ cap ∧ cap ≤ 9223372036854775807 ∧ S b ∧
   ((-9223372036854775808 ≤ x.1 ∧ x.1 ≤ 9223372036854775807) ∧ -9223372036854775808 ≤ x.2 ∧ x.2 ≤ 9223372036854775807) ∧
   w.cell? ⟨b,off,none⟩ = some (.int .i64 x.1) ∧ w.cell? ⟨b,off + 1,none⟩ = some (.int .i64 x.2) ∧
   ∀ a',(0 < n → a' = some ⟨b,off + 2,none⟩) → Pows S w (.slice a' n (cap - 1)) r:=by
 obtain ⟨b,off,⟨a,cap,rfl,h2,h3,h4,h5⟩,hc⟩:=h
 obtain rfl:=h4 (by simp)
 have c0:=hc 0 x rfl
 simp only [Nat.zero_mul,Nat.add_zero] at c0
 simp only [List.length_cons] at h2
 refine ⟨b,off,r.length,cap,rfl,rfl,h2,h3,h5 (by simp),c0.1,c0.2.1,c0.2.2,fun a' ha => ⟨b,off + 2,⟨a',cap - 1,rfl,by omega,by unfold maxLen at *; omega,ha,fun h => h5 (by simp)⟩,fun j y hj => ?_⟩⟩
 have cj:=hc (j + 1) y (by simpa using hj)
 rw [show off + (j + 1) * 2 = off + 2 + j * 2 by omega] at cj
 exact cj
theorem Pows.nil {S:Nat → Prop} {w:World} {v:Value} (h:Pows S w v []):∃ a cap,v = .slice a 0 cap ∧ cap ≤ 9223372036854775807:=by
 obtain ⟨b,off,⟨a,cap,rfl,h2,h3,h4,h5⟩,hc⟩:=h
 exact ⟨a,cap,rfl,by unfold maxLen at *; omega⟩
theorem Pows.at {S:Nat → Prop} {w:World} {v:Value} {m:Mono} {k:Nat} {x:Int × Int} (h:Pows S w v m) (hx:m[k]? = some x) :
  ∃ b off cap,v = .slice (some ⟨b,off,none⟩) m.length cap ∧ m.length ≤ cap ∧ cap ≤ 9223372036854775807 ∧
   ((-9223372036854775808 ≤ x.1 ∧ x.1 ≤ 9223372036854775807) ∧ -9223372036854775808 ≤ x.2 ∧ x.2 ≤ 9223372036854775807) ∧
   w.cell? ⟨b,off + k * 2,none⟩ = some (.int .i64 x.1) ∧ w.cell? ⟨b,off + k * 2 + 1,none⟩ = some (.int .i64 x.2):=by
 obtain ⟨b,off,⟨a,cap,rfl,h2,h3,h4,h5⟩,hc⟩:=h
 obtain rfl:=h4 (by have:=z03 hx; omega)
 exact ⟨b,off,cap,rfl,h2,h3,hc k x hx⟩
theorem z7u {α:Type} {l:List α} {k:Nat} {x:α} (h:l[k]? = some x):l.drop k = x :: l.drop (k + 1):=by
 obtain ⟨hk,rfl⟩:=List.getElem?_eq_some_iff.1 h
 exact List.drop_eq_getElem_cons hk
theorem z2j {S:Nat → Prop} (v:Value) (m:Mono) (w:World) (h:Pows S w v m) (hS:∀ k,S k → k < w.heap.size) :
  Calls Tryz.prog 65 #[v] w fun e w' => e = .returned (.bool (mayM m)) ∧ Ext w w':=by
 have hl:=h.len_le
 have H:=hid h
 obtain ⟨a,cap,rfl⟩:=h.form
 go_enter Tryz.func65,Tryz.ntmps65
 go_wp2
 go_loopw [3,8] (fun l i wr => ∃ (k:Nat) (y:Int),k ≤ m.length ∧ i = .int .i64 k ∧ l = .int .i64 y ∧ (-9223372036854775808 ≤ y ∧ y ≤ 9223372036854775807) ∧ Ext w wr ∧ z0e 0 m = z0e y (m.drop k)) (fun _ i _ => m.length - (intOf i).toNat)
 case atStart => exact ⟨0,0,Nat.zero_le _,rfl,rfl,by omega,Ext.refl _,rfl⟩
 case round =>
  obtain ⟨k,y,hk,rfl,rfl,hyb,hx,hm⟩:=hrel
  have HX:=hid hx
  have HM:=hid hm
  clear hm
  by_cases hlt:k < m.length
  ·obtain ⟨t,ht⟩:=z00 hlt
   have hT:=z7u ht
   obtain ⟨b,off,cap',hv,hcap,hmax,⟨hb1,hb2⟩,h1,h2⟩:=(H.out.to (Kept.of_below hx |>.mono hS) (fun k hk => hk)).at ht
   obtain ⟨rfl,-,rfl⟩:a = some ⟨b,off,none⟩ ∧ True ∧ cap = cap':=by simpa using hv
   clear hv
   have HT:=hid hT
   have HK:=hid ht
   clear ht hT h hx
   obtain ⟨x,z⟩:=t
   simp only at h1 h2 hb1 hb2
   rcases (show (x ≤ y ∨ 200 < x ∨ z < 1 ∨ 10000 < z) ∨ (y < x ∧ x ≤ 200 ∧ 1 ≤ z ∧ z ≤ 10000) by omega) with hbad | ⟨g1,g2,g3,g4⟩
   ·have hf:mayM m = false:=by
     unfold mayM
     rw [HM.out,HT.out,z0e]
     have:¬ (y < x ∧ x ≤ 200 ∧ 1 ≤ z ∧ z ≤ 10000):=by omega
     simp [this]
    have HF:=hid hf
    clear hf
    rcases hbad with g | g | g | g <;> go_wp2
    all_goals
     go_ret
     exact ⟨by rw [HF.out]; rfl,HX.out.alloc _⟩
   ·go_wp2
    go_roundw
    case rel => exact ⟨k + 1,x,by omega,by go_num,rfl,hb1,HX.out.alloc _,by rw [HM.out,HT.out,z0e]; simp [g1,g2,g3,g4]⟩
    case measure => simp only [intOf]; omega
  ·obtain rfl:k = m.length:=by omega
   go_wp2
   all_goals
    go_ret
    have e:mayM m = true:=by
     unfold mayM
     rw [HM.out]
     simp [z0e]
    exact ⟨by rw [e]; rfl,HX.out⟩
end
section
open Go.RowKit
def z15:Value → Nat
 | .slice _ n _ => n
 | _ => 0
def z40 (x:Int):Prop:=-9223372036854775808 ≤ x ∧ x ≤ 9223372036854775807
theorem zc7 {S:Nat → Prop} (g:Nat) (lb:Array Value) (eg:∀ args w,(callFunc g args).run Tryz.prog w = .ok (.enter g args) w) (I:List (Int × Int × Int) → World → Prop) (a b:Mono) (w:World)
  (hI:∀ d t r W,both a b = d ++ t :: r → I d W → Calls Tryz.prog g (#[.int .i64 t.1,.int .i64 t.2.1,.int .i64 t.2.2] ++ lb) W fun e W' => e = .returned (.tuple #[]) ∧ I (d ++ [t]) W')
  (hK:∀ d W,I d W → Kept S w W) (hD:∀ d W q,I d W → I d (W.drewN q)) (va vb:Value) (ha:Pows S w va a) (hb:Pows S w vb b) (h0:I [] w) :
  Calls Tryz.prog 123 #[va,vb,.func (.func g) #[] lb] w fun e w' => e = .returned (.tuple #[]) ∧ I (both a b) w':=by
 have HI:=hid hI
 have HK:=hid hK
 have HQ:=hid hD
 clear hI hK hD
 go_enter Tryz.func123,Tryz.ntmps123
 go_wp2
 go_loopw [0,1] (fun x y wr => ∃ d ra rb,both a b = d ++ both ra rb ∧ Pows S w x ra ∧ Pows S w y rb ∧ I d wr) (fun x y _ => z15 x + z15 y)
 case atStart => exact ⟨[],a,b,rfl,ha,hb,h0⟩
 case round =>
  obtain ⟨d,ra,rb,hd,hpa,hpb,hi⟩:=hrel
  have hk:=HK.out d _ hi
  clear ha hb h0
  cases ra with
  | nil =>
   obtain ⟨aa,ca,rfl,hca⟩:=hpa.nil
   cases rb with
   | nil =>
    obtain ⟨ab',cb,rfl,hcb⟩:=hpb.nil
    have HD:=hid hd
    have HF:=hid hi
    clear hd hi hpa hpb hk
    go_wp2
    all_goals
     go_end0
     refine ⟨rfl,?_⟩
     rw [HD.out,z72,List.append_nil]
     exact HF.out
   | cons y rb =>
    obtain ⟨bb,offb,nb,cb,rfl,hnb,hnc,hcb,hSb,⟨by1,by2⟩,hy1,hy2,hrb⟩:=hpb.cons
    have gy1:=hk.cell hSb hy1
    have gy2:=hk.cell hSb hy2
    rw [z65] at hd
    have hcall:=fun q => HI.out d _ _ (wr.drewN q) hd (HQ.out d _ q hi)
    have HY:=hid (And.intro hy1 hy2)
    have HD:=hid hd
    have HA:=hid hpa
    have HB:=hid hrb
    have HN:=hid hnb
    clear hd hi hpa hpb hk hrb hnb hy1 hy2
    obtain ⟨v,z⟩:=y
    simp only at gy1 gy2 by1 by2 hcall HY
    have q1:((nb:Int) + 1 == 0) = false:=by simp; omega
    have HC:=hid hcall
    clear hcall
    go_wp2
    go_quiet (fail)
    go_wp2
    go_quiet (fail)
    go_wp2
    have S0:∀ q,(wr.drewN q).cell? ⟨bb,offb,none⟩ = some (.int .i64 v) ∧ (wr.drewN q).cell? ⟨bb,offb + 1,none⟩ = some (.int .i64 z):=fun q => ⟨by simpa using gy1,by simpa using gy2⟩
    go_region_held3 (fun W => W.cell? ⟨bb,offb,none⟩ = some (.int .i64 v) ∧ W.cell? ⟨bb,offb + 1,none⟩ = some (.int .i64 z)) (first | exact S0 _ | exact S1 | (refine ⟨?_,?_⟩ <;> simpa))
     (first | (go_at_fn g; (with_reducible refine (HC.out _).mono ?_); rintro e w' ⟨rfl,hi'⟩; have S1:=And.intro ((HK.out _ _ hi').cell hSb HY.out.1) ((HK.out _ _ hi').cell hSb HY.out.2)))
    go_wp2
    go_roundw
    case rel =>
     refine ⟨d ++ [(v,0,z)],[],rb,by rw [HD.out]; simp,HA.out,HB.out _ (fun h => if_neg (by omega)),hi'⟩
    case measure => simp only [z15]; omega
  | cons x ra =>
   obtain ⟨ba,offa,na,ca,rfl,hna,hnca,hca,hSa,⟨bx1,bx2⟩,hx1,hx2,hra⟩:=hpa.cons
   have gx1:=hk.cell hSa hx1
   have gx2:=hk.cell hSa hx2
   cases rb with
   | nil =>
    obtain ⟨ab,cb,rfl,hcb⟩:=hpb.nil
    rw [z73] at hd
    have hcall:=fun q => HI.out d _ _ (wr.drewN q) hd (HQ.out d _ q hi)
    have HY:=hid (And.intro hx1 hx2)
    have HD:=hid hd
    have HA:=hid hra
    have HB:=hid hpb
    clear hd hi hpa hpb hk hra hna hx1 hx2
    obtain ⟨v,z⟩:=x
    simp only at gx1 gx2 bx1 bx2 hcall HY
    have q1:((na:Int) + 1 == 0) = false:=by simp; omega
    have HC:=hid hcall
    clear hcall
    go_wp2
    go_quiet (fail)
    go_wp2
    have S0:∀ q,(wr.drewN q).cell? ⟨ba,offa,none⟩ = some (.int .i64 v) ∧ (wr.drewN q).cell? ⟨ba,offa + 1,none⟩ = some (.int .i64 z):=fun q => ⟨by simpa using gx1,by simpa using gx2⟩
    go_region_held3 (fun W => W.cell? ⟨ba,offa,none⟩ = some (.int .i64 v) ∧ W.cell? ⟨ba,offa + 1,none⟩ = some (.int .i64 z)) (first | exact S0 _ | exact S1 | (refine ⟨?_,?_⟩ <;> simpa))
     (first | (go_at_fn g; (with_reducible refine (HC.out _).mono ?_); rintro e w' ⟨rfl,hi'⟩; have S1:=And.intro ((HK.out _ _ hi').cell hSa HY.out.1) ((HK.out _ _ hi').cell hSa HY.out.2)))
    go_wp2
    go_roundw
    case rel =>
     refine ⟨d ++ [(v,z,0)],ra,[],by rw [HD.out]; simp,HA.out _ (fun h => if_neg (by omega)),HB.out,hi'⟩
    case measure => simp only [z15]; omega
   | cons y rb =>
    obtain ⟨bb,offb,nb,cb,rfl,hnb,hncb,hcb,hSb,⟨by1,by2⟩,hy1,hy2,hrb⟩:=hpb.cons
    have gy1:=hk.cell hSb hy1
    have gy2:=hk.cell hSb hy2
    rw [z74] at hd
    have HY:=hid (And.intro (And.intro hx1 hx2) (And.intro hy1 hy2))
    have HA:=hid hra
    have HB:=hid hrb
    have HPA:=hid hpa
    have HPB:=hid hpb
    have q0:((na:Int) + 1 == 0) = false:=by simp; omega
    have q1:((nb:Int) + 1 == 0) = false:=by simp; omega
    obtain ⟨u,z⟩:=x
    obtain ⟨v,t⟩:=y
    simp only at gx1 gx2 bx1 bx2 gy1 gy2 by1 by2 HY hd
    clear hpa hpb hk hra hrb hna hnb hx1 hx2 hy1 hy2
    have SA:∀ q,(wr.drewN q).cell? ⟨ba,offa,none⟩ = some (.int .i64 u) ∧ (wr.drewN q).cell? ⟨ba,offa + 1,none⟩ = some (.int .i64 z) ∧ (wr.drewN q).cell? ⟨bb,offb,none⟩ = some (.int .i64 v) ∧ (wr.drewN q).cell? ⟨bb,offb + 1,none⟩ = some (.int .i64 t):=fun q => ⟨by simpa using gx1,by simpa using gx2,by simpa using gy1,by simpa using gy2⟩
    rcases (show u < v ∨ v < u ∨ u = v by omega) with hlt | hlt | heq
    ·rw [if_pos hlt] at hd
     have hcall:=fun q => HI.out d _ _ (wr.drewN q) hd (HQ.out d _ q hi)
     have HD:=hid hd
     have HC:=hid hcall
     clear hcall hd hi
     go_wp2
     go_quiet (fail)
     go_wp2
     go_region_held3 (fun W => W.cell? ⟨ba,offa,none⟩ = some (.int .i64 u) ∧ W.cell? ⟨ba,offa + 1,none⟩ = some (.int .i64 z)) (first | exact ⟨(SA _).1,(SA _).2.1⟩ | exact S1 | (refine ⟨?_,?_⟩ <;> simpa))
      (first | (go_at_fn g; (with_reducible refine (HC.out _).mono ?_); rintro e w' ⟨rfl,hi'⟩; have S1:=And.intro ((HK.out _ _ hi').cell hSa HY.out.1.1) ((HK.out _ _ hi').cell hSa HY.out.1.2)))
     go_wp2
     go_roundw
     case rel => exact ⟨d ++ [(u,z,0)],ra,(v,t) :: rb,by rw [HD.out]; simp,HA.out _ (fun h => if_neg (by omega)),HPB.out,hi'⟩
     case measure => simp only [z15]; omega
    ·rw [if_neg (by omega),if_pos hlt] at hd
     have hcall:=fun q => HI.out d _ _ (wr.drewN q) hd (HQ.out d _ q hi)
     have HD:=hid hd
     have HC:=hid hcall
     clear hcall hd hi
     go_wp2
     go_quiet (fail)
     go_wp2
     go_quiet (fail)
     go_wp2
     go_region_held3 (fun W => W.cell? ⟨bb,offb,none⟩ = some (.int .i64 v) ∧ W.cell? ⟨bb,offb + 1,none⟩ = some (.int .i64 t)) (first | exact (SA _).2.2 | exact S1 | (refine ⟨?_,?_⟩ <;> simpa))
      (first | (go_at_fn g; (with_reducible refine (HC.out _).mono ?_); rintro e w' ⟨rfl,hi'⟩; have S1:=And.intro ((HK.out _ _ hi').cell hSb HY.out.2.1) ((HK.out _ _ hi').cell hSb HY.out.2.2)))
     go_wp2
     go_roundw
     case rel => exact ⟨d ++ [(v,0,t)],(u,z) :: ra,rb,by rw [HD.out]; simp,HPA.out,HB.out _ (fun h => if_neg (by omega)),hi'⟩
     case measure => simp only [z15]; omega
    ·subst heq
     rw [if_neg (by omega),if_neg (by omega)] at hd
     have hcall:=fun q => HI.out d _ _ (wr.drewN q) hd (HQ.out d _ q hi)
     have HD:=hid hd
     have HC:=hid hcall
     clear hcall hd hi
     go_wp2
     go_quiet (fail)
     go_wp2
     go_quiet (fail)
     go_wp2
     go_region_held3 (fun W => W.cell? ⟨ba,offa,none⟩ = some (.int .i64 u) ∧ W.cell? ⟨ba,offa + 1,none⟩ = some (.int .i64 z) ∧ W.cell? ⟨bb,offb + 1,none⟩ = some (.int .i64 t)) (first | exact ⟨(SA _).1,(SA _).2.1,(SA _).2.2.2⟩ | exact S1 | (refine ⟨?_,?_,?_⟩ <;> simpa))
      (first | (go_at_fn g; (with_reducible refine (HC.out _).mono ?_); rintro e w' ⟨rfl,hi'⟩; have S1:=And.intro ((HK.out _ _ hi').cell hSa HY.out.1.1) (And.intro ((HK.out _ _ hi').cell hSa HY.out.1.2) ((HK.out _ _ hi').cell hSb HY.out.2.2))))
     go_wp2
     go_quiet (fail)
     go_wp2
     go_roundw
     case rel => exact ⟨d ++ [(u,z,t)],ra,rb,by rw [HD.out]; simp,HA.out _ (fun h => if_neg (by omega)),HB.out _ (fun h => if_neg (by omega)),HQ.out _ _ _ hi'⟩
     case measure => simp only [z15]; omega
end
section
open Go.RowKit
theorem zeb (x:Int) (w:World) (_h1:-9223372036854775808 ≤ x) (_h2:x ≤ 9223372036854775807) :
  Calls Tryz.prog 138 #[.int .i64 x] w fun e w' => e = .returned (.bool false) ∧ w' = w:=by
 have hb:(x != x) = false:=by simp
 go_enter Tryz.func138,Tryz.ntmps138
 go_wp2
 all_goals
  go_ret
  exact ⟨rfl,rfl⟩
theorem zqw (x y:Int) (w:World) (hx:-9223372036854775808 ≤ x ∧ x ≤ 9223372036854775807) (hy:-9223372036854775808 ≤ y ∧ y ≤ 9223372036854775807) :
  Calls Tryz.prog 125 #[.int .i64 x,.int .i64 y] w fun e w' => e = .returned (.int .i64 (cmpI x y)) ∧ w' = w:=by
 obtain ⟨hx1,hx2⟩:=hx
 obtain ⟨hy1,hy2⟩:=hy
 rcases (show x < y ∨ y < x ∨ x = y by omega) with h | h | h
 ·have e:cmpI x y = -1:=by simp [cmpI,h]
  rw [e]
  clear e
  go_enter Tryz.func125,Tryz.ntmps125
  go_wp2_with (go_at_call 138; refine (zeb _ _ (by assumption) (by assumption)).mono ?_; rintro e w' ⟨rfl,rfl⟩)
  all_goals
   go_ret
   exact ⟨rfl,rfl⟩
 ·have e:cmpI x y = 1:=by simp [cmpI,h]; omega
  rw [e]
  clear e
  go_enter Tryz.func125,Tryz.ntmps125
  go_wp2_with (go_at_call 138; refine (zeb _ _ (by assumption) (by assumption)).mono ?_; rintro e w' ⟨rfl,rfl⟩)
  all_goals
   go_ret
   exact ⟨rfl,rfl⟩
 ·subst h
  have e:cmpI x x = 0:=by simp [cmpI]
  rw [e]
  clear e
  go_enter Tryz.func125,Tryz.ntmps125
  go_wp2_with (go_at_call 138; refine (zeb _ _ (by assumption) (by assumption)).mono ?_; rintro e w' ⟨rfl,rfl⟩)
  all_goals
   go_ret
   exact ⟨rfl,rfl⟩
theorem znh (z x y c:Int) (b:Nat) (w:World) (hx:z40 x) (hy:z40 y) (hc:w.cell? ⟨b,0,none⟩ = some (.int .i64 c)) (hf:w.frozen? ⟨b,0,none⟩ = false) :
  Calls Tryz.prog 124 #[.int .i64 z,.int .i64 x,.int .i64 y,.pointer (some ⟨b,0,none⟩)] w fun e w' => e = .returned (.tuple #[]) ∧ w' = if x = y then w else w.setCell ⟨b,0,none⟩ (.int .i64 (cmpI x y)):=by
 unfold z40 at hx hy
 by_cases h:x = y
 ·subst h
  have hb:(x != x) = false:=by simp
  go_enter Tryz.func124,Tryz.ntmps124
  go_wp2
  all_goals
   go_end0
   simp
 ·have hb:(x != y) = true:=by simpa using h
  rw [if_neg h]
  go_enter Tryz.func124,Tryz.ntmps124
  go_wp2_with (go_at_call 125; refine (zqw _ _ _ hx hy).mono ?_; rintro e w' ⟨rfl,rfl⟩)
  all_goals
   go_end0
   exact ⟨rfl,rfl⟩
theorem zec (d:List (Int × Int × Int)) (t:Int × Int × Int) (c:Int):cmpL (d ++ [t]) c = if t.2.1 = t.2.2 then cmpL d c else cmpI t.2.1 t.2.2:=by
 induction d generalizing c with
 | nil => simp [cmpL]
 | cons s d ih => simp [cmpL,ih]
def inBounds (m:Mono):Prop:=∀ x ∈ m,z40 x.1 ∧ z40 x.2
theorem Pows.inBounds {S:Nat → Prop} {w:World} {v:Value} {m:Mono} (h:Pows S w v m):inBounds m:=by
 obtain ⟨b,off,hs,hc⟩:=h
 intro x hx
 obtain ⟨j,hj⟩:=List.getElem?_of_mem hx
 exact (hc j x hj).1
theorem zc8 (n:Nat) (a b:Mono) (ha:inBounds a) (hb:inBounds b):∀ t ∈ z3w n a b,z40 t.1 ∧ z40 t.2.1 ∧ z40 t.2.2:=by
 have h0:z40 0:=by unfold z40; omega
 induction n generalizing a b with
 | zero => intro t ht; simp [z3w] at ht
 | succ n ih =>
  intro t ht
  cases a with
  | nil =>
   cases b with
   | nil => simp [z3w] at ht
   | cons y b =>
    simp only [z3w,List.mem_cons] at ht
    have hy:=hb y (by simp)
    rcases ht with rfl | ht
    ·exact ⟨hy.1,h0,hy.2⟩
    ·exact ih [] b ha (fun x hx => hb x (by simp [hx])) t ht
  | cons x a =>
   have hx:=ha x (by simp)
   have ha':inBounds a:=fun x hx => ha x (by simp [hx])
   cases b with
   | nil =>
    simp only [z3w,List.mem_cons] at ht
    rcases ht with rfl | ht
    ·exact ⟨hx.1,hx.2,h0⟩
    ·exact ih a [] ha' hb t ht
   | cons y b =>
    have hy:=hb y (by simp)
    have hb':inBounds b:=fun x hx => hb x (by simp [hx])
    simp only [z3w] at ht
    split at ht
    ·rcases List.mem_cons.1 ht with rfl | ht
     ·exact ⟨hx.1,hx.2,h0⟩
     ·exact ih a (y :: b) ha' hb t ht
    ·split at ht
     ·rcases List.mem_cons.1 ht with rfl | ht
      ·exact ⟨hy.1,h0,hy.2⟩
      ·exact ih (x :: a) b ha hb' t ht
     ·rcases List.mem_cons.1 ht with rfl | ht
      ·exact ⟨hx.1,hx.2,hy.2⟩
      ·exact ih a b ha' hb' t ht
theorem z98 {a b:Mono} (ha:inBounds a) (hb:inBounds b):∀ t ∈ both a b,z40 t.1 ∧ z40 t.2.1 ∧ z40 t.2.2:=zc8 _ a b ha hb
end
section
open Go.RowKit
theorem Kept.ext {S:Nat → Prop} {w w':World} (h:Ext w w') (hS:∀ k,S k → k < w.heap.size):Kept S w w':=(Kept.of_below h).mono hS
theorem Ext.drewN {a w:World} (h:Ext a w) (q:Nat):Ext a (w.drewN q) :=
 ⟨h.os,h.tape,h.output,h.size,h.block⟩
theorem zc9 {S:Nat → Prop} (va vb:Value) (a b:Mono) (w:World) (ha:Pows S w va a) (hb:Pows S w vb b) (hS:∀ k,S k → k < w.heap.size) :
  Calls Tryz.prog 101 #[va,vb] w fun e w' => e = .returned (.tuple #[.int .i64 (if mayM a && mayM b then z0i a b else 0),.int .i64 (if mayM a && mayM b then 0 else 2)]) ∧ Ext w w':=by
 have hmf:∀ (fn:Fn) (first cap:Array Value) (w:World),(Instr.makeFunc fn first cap).run Tryz.prog w = .ok (.func fn first cap) w:=fun _ _ _ _ => rfl
 have hnot:∀ (x:Bool) (w:World),(Op.unary .not (.bool x)).run Tryz.prog w = .ok (.bool (!x)) w:=fun _ _ => rfl
 have HA:=hid ha
 have HB:=hid hb
 obtain ⟨aa,ca,rfl⟩:=ha.form
 obtain ⟨ab,cb,rfl⟩:=hb.form
 clear ha hb
 go_enter Tryz.func101,Tryz.ntmps101
 go_wp2_with fail
 refine (z2j _ a w HA.out hS).mono ?_
 rintro e w1 ⟨rfl,hx1⟩
 have HX1:=hid hx1
 clear hx1
 cases hma:mayM a with
 | false =>
  go_wp2
  all_goals
   go_ret2
   exact ⟨rfl,HX1.out⟩
 | true =>
  go_wp2_with fail
  refine (z2j _ b w1 (HB.out.to (Kept.ext HX1.out hS) (fun _ h => h)) (fun k hk => Nat.lt_of_lt_of_le (hS k hk) HX1.out.size)).mono ?_
  rintro e w2 ⟨rfl,hx2⟩
  have HX2:=hid (HX1.out.trans hx2)
  clear hx2
  cases hmb:mayM b with
  | false =>
   go_wp2
   all_goals
    go_ret2
    exact ⟨rfl,HX2.out⟩
  | true =>
   go_wp2_with fail
   have hS2:∀ k,S k → k < w2.heap.size:=fun k hk => Nat.lt_of_lt_of_le (hS k hk) HX2.out.size
   refine (zc7 (S:=S) 124 #[.pointer (some ⟨w2.heap.size,0,none⟩)] (enters_of Tryz.func124 (by kernel_rfl) rfl)
    (fun d W => W.cell? ⟨w2.heap.size,0,none⟩ = some (.int .i64 (cmpL d 0)) ∧ W.frozen? ⟨w2.heap.size,0,none⟩ = false ∧ Ext w2 W) a b _ ?_ ?_ ?_ _ _
    (HA.out.to (Kept.ext (HX2.out.alloc _) hS) (fun _ h => h)) (HB.out.to (Kept.ext (HX2.out.alloc _) hS) (fun _ h => h)) ⟨z02 _ _ _ rfl rfl,z1n _ _ _,Ext.alloc (Ext.refl _) _⟩).mono ?_
   ·rintro d t r W hd ⟨h1,h2,h3⟩
    have hb:=z98 HA.out.inBounds HB.out.inBounds t (by rw [hd]; simp)
    rw [show (#[Value.int .i64 t.1,.int .i64 t.2.1,.int .i64 t.2.2] ++ #[.pointer (some ⟨w2.heap.size,0,none⟩)]:Array Value) = #[.int .i64 t.1,.int .i64 t.2.1,.int .i64 t.2.2,.pointer (some ⟨w2.heap.size,0,none⟩)] from rfl]
    refine (znh t.1 t.2.1 t.2.2 _ _ W hb.2.1 hb.2.2 h1 h2).mono ?_
    rintro e w' ⟨rfl,rfl⟩
    refine ⟨rfl,?_⟩
    rw [zec]
    split
    ·exact ⟨h1,h2,h3⟩
    ·exact ⟨z1c h1,z2u h2,h3.setCell (p:=⟨w2.heap.size,0,none⟩) (Nat.le_refl _) _⟩
   ·rintro d W ⟨_,_,h3⟩ k hk
    exact (Kept.ext h3 hS2 k hk).trans (Kept.ext (Ext.alloc (Ext.refl w2) _) hS2 k hk).symm
   ·rintro d W q ⟨h1,h2,h3⟩
    exact ⟨by simpa using h1,by simpa using h2,h3.drewN q⟩
   rintro e w3 ⟨rfl,h1,h2,h3⟩
   have HX3:=hid (HX2.out.trans h3)
   clear h3
   go_wp2
   all_goals
    go_ret2
    exact ⟨rfl,HX3.out⟩
end
section
open Go.RowKit
theorem Pows.empty (S:Nat → Prop) (w:World) (a:Option Addr):Pows S w (.slice a 0 0) [] :=
 ⟨0,0,⟨a,0,rfl,Nat.le_refl _,Nat.zero_le _,fun h => absurd h (Nat.lt_irrefl _),fun h => absurd h (Nat.lt_irrefl _)⟩,fun j x hx => by simp at hx⟩
def zsu (a b:Mono):Int:=if mayM a && mayM b then 0 else 2
theorem zb4 {S:Nat → Prop} (va vb:Value) (a b:Mono) (w:World) (ha:Pows S w va a) (hb:Pows S w vb b) (hS:∀ k,S k → k < w.heap.size) :
  Calls Tryz.prog 101 #[va,vb] w fun e w' => e = .returned (.tuple #[.int .i64 (z3e a b),.int .i64 (zsu a b)]) ∧ Ext w w':=zc9 va vb a b w ha hb hS
theorem z66 {S:Nat → Prop} (va vb:Value) (a b:Mono) (w:World) (ha:Pows S w va a) (hb:Pows S w vb b) (hS:∀ k,S k → k < w.heap.size) :
  Calls Tryz.prog 66 #[va,vb] w fun e w' => e = .returned (.int .i64 (z3e a b)) ∧ Ext w w':=by
 have HA:=hid ha
 have HB:=hid hb
 obtain ⟨aa,ca,rfl⟩:=ha.form
 obtain ⟨ab,cb,rfl⟩:=hb.form
 clear ha hb
 go_enter Tryz.func66,Tryz.ntmps66
 go_wp2_with fail
 refine (zb4 _ _ a b w HA.out HB.out hS).mono ?_
 rintro e w1 ⟨rfl,hx1⟩
 have HX1:=hid hx1
 clear hx1
 go_wp2
 all_goals
  go_ret
  exact ⟨rfl,HX1.out⟩
end
section
open Go.RowKit
def z3d (m:Mono):List Value:=m.flatMap fun x => [.int .i64 x.1,.int .i64 x.2]
theorem z4h (m k:Mono):z3d (m ++ k) = z3d m ++ z3d k:=by simp [z3d]
theorem z8e (m:Mono):(z3d m).length = m.length * 2:=by
 induction m with
 | nil => rfl
 | cons x r ih =>
  show (Value.int .i64 x.1 :: Value.int .i64 x.2 :: z3d r).length = _
  simp only [List.length_cons,ih]
  omega
theorem z99 {m:Mono} {j:Nat} {x:Int × Int} (h:m[j]? = some x):(z3d m)[j * 2]? = some (.int .i64 x.1) ∧ (z3d m)[j * 2 + 1]? = some (.int .i64 x.2):=by
 induction m generalizing j with
 | nil => simp at h
 | cons y r ih =>
  have e:z3d (y :: r) = Value.int .i64 y.1 :: Value.int .i64 y.2 :: z3d r:=rfl
  rw [e]
  cases j with
  | zero =>
   simp at h
   subst h
   exact ⟨rfl,rfl⟩
  | succ j =>
   have:=ih (j:=j) (by simpa using h)
   rw [show (j + 1) * 2 = j * 2 + 1 + 1 by omega]
   simpa using this
theorem z67 {w:World} {base:Nat} {e:TypeId} {v:Value} {m:Mono} (h:w.ownsRow base e 2 v m.length (z3d m)) (hb:inBounds m):Pows (fun k => base ≤ k ∧ k < w.heap.size) w v m:=by
 have hlt:=h.lt
 rcases h.2 with ⟨rfl,h0⟩ | ⟨g,cap,cur,rfl,hg,hh,h1,h2,h3,h4⟩
 ·obtain rfl:m = []:=List.length_eq_zero_iff.1 h0
  exact Pows.empty _ _ _
 ·refine ⟨g,0,⟨_,cap,rfl,h1,h2,fun _ => rfl,fun _ => hlt g rfl⟩,fun j x hj => ⟨hb x (List.mem_of_getElem? hj),?_,?_⟩⟩
  ·rw [h.cellAt (0 + j * 2) (by have:=z03 hj; omega),Nat.zero_add]
   exact (z99 hj).1
  ·rw [h.cellAt (0 + j * 2 + 1) (by have:=z03 hj; omega),Nat.zero_add]
   exact (z99 hj).2
theorem z0j {a w w':World} {row:Option Nat} (h:Ext a w) (hg:w.grownBy w' row) (hr:∀ k,row = some k → a.heap.size ≤ k):Ext a w' :=
 ⟨hg.os.trans h.os,hg.tape.trans h.tape,hg.output.trans h.output,Nat.le_trans h.size hg.size,
  fun k hk => (hg.block k (Nat.lt_of_lt_of_le hk h.size) (fun e => by have:=hr k e.symm; omega)).trans (h.block k hk)⟩
theorem zed {last:Int} {m:Mono} (h:z0e last m = true) (h0:0 ≤ last) (h2:last ≤ 200):(m.length:Int) ≤ 200 - last:=by
 induction m generalizing last with
 | nil => simp; omega
 | cons x r ih =>
  simp only [z0e,Bool.and_eq_true,decide_eq_true_eq] at h
  have:=ih h.2 (by omega) (by omega)
  simp only [List.length_cons]
  omega
theorem z68 {m:Mono} (h:mayM m = true):m.length ≤ 200:=by
 have:=zed h (by omega) (by omega)
 omega
end
section
def val (B:Nat):List Nat → Nat
 | [] => 0
 | z :: r => z + B * val B r
def repF (B:Nat):Nat → Nat → List Nat
 | 0,_ => []
 | f + 1,n => if n = 0 then [] else (n % B) :: repF B f (n / B)
def rep (B n:Nat):List Nat:=repF B n n
def z8q:List Nat → List Nat
 | [] => []
 | d :: r => if z8q r = [] ∧ d = 0 then [] else d :: z8q r
section
variable {B:Nat}
theorem z75 (f:Nat):repF B f 0 = []:=by cases f <;> simp [repF]
theorem zjf (hB:2 ≤ B) (f g n:Nat) (hf:n ≤ f) (hg:n ≤ g):repF B f n = repF B g n:=by
 induction f generalizing g n with
 | zero =>
  obtain rfl:n = 0:=by omega
  rw [z75,z75]
 | succ f ih =>
  cases g with
  | zero =>
   obtain rfl:n = 0:=by omega
   rw [z75,z75]
  | succ g =>
   simp only [repF]
   split
   ·rfl
   ·have h:n / B < n:=Nat.div_lt_self (by omega) (by omega)
    rw [ih g (n / B) (by omega) (by omega)]
theorem z2k:rep B 0 = []:=rfl
theorem z5i (hB:2 ≤ B) {n:Nat} (h:0 < n):rep B n = (n % B) :: rep B (n / B):=by
 unfold rep
 have hd:n / B < n:=Nat.div_lt_self h (by omega)
 obtain ⟨m,rfl⟩:∃ m,n = m + 1:=⟨n - 1,by omega⟩
 rw [repF,if_neg (by omega),zjf hB m ((m + 1) / B) _ (by omega) (Nat.le_refl _)]
theorem z0c (hB:2 ≤ B) (n:Nat):val B (rep B n) = n:=by
 induction n using Nat.strongRecOn with
 | ind n ih =>
  by_cases h:n = 0
  ·subst h; rfl
  ·rw [z5i hB (by omega),val,ih _ (Nat.div_lt_self (by omega) (by omega))]
   exact Nat.mod_add_div n B
theorem z32 (hB:2 ≤ B) (n:Nat):∀ d ∈ rep B n,d < B:=by
 induction n using Nat.strongRecOn with
 | ind n ih =>
  by_cases h:n = 0
  ·subst h; intro d hd; simp [z2k] at hd
  ·rw [z5i hB (by omega)]
   intro d hd
   rcases List.mem_cons.1 hd with rfl | hd
   ·exact Nat.mod_lt _ (by omega)
   ·exact ih _ (Nat.div_lt_self (by omega) (by omega)) d hd
theorem z1u (hB:2 ≤ B) {n:Nat}:rep B n = [] ↔ n = 0:=by
 constructor
 ·intro h
  have:=z0c hB n
  rw [h] at this
  exact this.symm
 ·rintro rfl; rfl
theorem zni (hB:2 ≤ B) {d m:Nat} (hd:d < B) (h:¬ (m = 0 ∧ d = 0)):rep B (d + B * m) = d :: rep B m:=by
 have hpos:0 < d + B * m:=by
  rcases Nat.eq_zero_or_pos m with rfl | hm
  ·omega
  ·have:=Nat.mul_pos (show 0 < B by omega) hm; omega
 rw [z5i hB hpos,Nat.add_mul_mod_self_left,Nat.mod_eq_of_lt hd,Nat.add_mul_div_left _ _ (by omega),Nat.div_eq_of_lt hd,Nat.zero_add]
theorem z4w (hB:2 ≤ B) (l:List Nat) (hl:∀ d ∈ l,d < B):z8q l = rep B (val B l):=by
 induction l with
 | nil => rfl
 | cons d r ih =>
  have ih:=ih (fun x hx => hl x (List.mem_cons_of_mem _ hx))
  simp only [z8q,val]
  have hd:=hl d (by simp)
  rw [ih]
  by_cases h:val B r = 0 ∧ d = 0
  ·rw [if_pos ⟨(z1u hB).2 h.1,h.2⟩,h.1,h.2]
   simp [z2k]
  ·rw [if_neg (fun g => h ⟨(z1u hB).1 g.1,g.2⟩),zni hB hd h]
theorem z13 (l:List Nat) (hl:∀ d ∈ l,d < B):val B l < B ^ l.length:=by
 induction l with
 | nil => simp [val]
 | cons d r ih =>
  have ih:=ih (fun x hx => hl x (List.mem_cons_of_mem _ hx))
  have hd:=hl d (by simp)
  simp only [val,List.length_cons,Nat.pow_succ]
  have h:B * (val B r + 1) ≤ B * B ^ r.length:=Nat.mul_le_mul_left _ ih
  rw [Nat.mul_add] at h
  rw [Nat.mul_comm (B ^ r.length) B]
  omega
theorem z0d (hB:2 ≤ B) (n k:Nat) (h:n < B ^ k):(rep B n).length ≤ k:=by
 induction k generalizing n with
 | zero =>
  obtain rfl:n = 0:=by simpa using h
  simp [z2k]
 | succ k ih =>
  by_cases h0:n = 0
  ·subst h0; simp [z2k]
  ·rw [z5i hB (by omega),List.length_cons]
   have:=ih (n / B) (by rw [Nat.div_lt_iff_lt_mul (by omega),← Nat.pow_succ]; exact h)
   omega
theorem z0s (hB:2 ≤ B) (n:Nat):n < B ^ (rep B n).length:=by
 have:=z13 (rep B n) (z32 hB n)
 rwa [z0c hB] at this
theorem z2x (l m:List Nat):val B (l ++ m) = val B l + B ^ l.length * val B m:=by
 induction l with
 | nil => simp [val]
 | cons d r ih =>
  simp only [List.cons_append,val,ih,List.length_cons,Nat.pow_succ,Nat.mul_add]
  rw [Nat.mul_comm (B ^ r.length) B,Nat.mul_assoc]
  omega
theorem z4i (l:List Nat) (z:Nat):val B (l ++ [z]) = val B l + B ^ l.length * z:=by
 rw [z2x]; simp [val]
theorem z2l {l:List Nat} {k z:Nat} (h:l[k]? = some z):val B (l.take (k + 1)) = val B (l.take k) + B ^ k * z:=by
 rw [List.take_add_one,h]
 obtain ⟨hk,_⟩:=List.getElem?_eq_some_iff.1 h
 show val B (l.take k ++ [z]) = _
 rw [z4i,List.length_take,Nat.min_eq_left (by omega)]
theorem z56 {l:List Nat} {k z:Nat} (h:l[k]? = some z):val B (l.drop k) = z + B * val B (l.drop (k + 1)):=by
 obtain ⟨hk,rfl⟩:=List.getElem?_eq_some_iff.1 h
 rw [List.drop_eq_getElem_cons hk,val]
theorem z76 (n:Nat):val B (List.replicate n 0) = 0:=by
 induction n with
 | zero => rfl
 | succ n ih => simp [List.replicate_succ,val,ih]
theorem zqx (hB:2 ≤ B) (l:List Nat) (hl:∀ d ∈ l,d < B) (hc:l.getLast? ≠ some 0):rep B (val B l) = l:=by
 rw [← z4w hB l hl]
 clear hl
 induction l with
 | nil => rfl
 | cons d r ih =>
  simp only [z8q]
  cases r with
  | nil =>
   simp [z8q] at hc ⊢
   exact hc
  | cons e r =>
   rw [List.getLast?_cons_cons] at hc
   rw [ih hc]
   simp
theorem zb5 (hB:2 ≤ B) (n:Nat):(rep B n).getLast? ≠ some 0:=by
 induction n using Nat.strongRecOn with
 | ind n ih =>
  by_cases h:n = 0
  ·subst h; simp [z2k]
  ·rw [z5i hB (by omega)]
   have ih:=ih (n / B) (Nat.div_lt_self (by omega) (by omega))
   by_cases h0:n / B = 0
   ·rw [h0,z2k]
    have:n % B = n:=Nat.mod_eq_of_lt ((Nat.div_eq_zero_iff_lt (by omega)).1 h0)
    simp [this,h]
   ·have hp:0 < n / B:=Nat.pos_of_ne_zero h0
    rw [z5i hB hp] at ih ⊢
    rw [List.getLast?_cons_cons]
    exact ih
end
def z24 (zs:List Nat):Nat → Nat
 | 0 => 0
 | k + 1 => if zs[k]? = some 0 then z24 zs k else k + 1
theorem zjg (zs:List Nat) (k:Nat):z24 zs k ≤ k:=by
 induction k with
 | zero => simp [z24]
 | succ k ih => simp only [z24]; split <;> omega
theorem zhg (l:List Nat) (z:Nat):z8q (l ++ [z]) = if z = 0 then z8q l else l ++ [z]:=by
 induction l with
 | nil => simp [z8q]
 | cons d r ih =>
  simp only [List.cons_append,z8q,ih]
  split
  ·rfl
  ·simp
theorem z4a (zs:List Nat) (k:Nat) (hk:k ≤ zs.length):zs.take (z24 zs k) = z8q (zs.take k):=by
 induction k with
 | zero => simp [z24,z8q]
 | succ k ih =>
  have h:zs[k]? = some zs[k]:=List.getElem?_eq_getElem (by omega)
  have e:zs.take (k + 1) = zs.take k ++ [zs[k]]:=by rw [List.take_add_one,h]; rfl
  simp only [z24]
  rw [e,zhg,h]
  split
  ·rename_i h0
   rw [ih (by omega),if_pos (by simpa using h0)]
  ·rename_i h0
   rw [if_neg (by simpa using h0),e]
end
section
def dg (l:List Nat) (k:Nat):Nat:=(l[k]?).getD 0
theorem z0k {l:List Nat} {k z:Nat} (h:l[k]? = some z):dg l k = z:=by simp [dg,h]
theorem z2a {l:List Nat} {k:Nat} (h:l.length ≤ k):dg l k = 0:=by simp [dg,List.getElem?_eq_none h]
theorem zjh {B:Nat} (hB:0 < B) {l:List Nat} (hl:∀ d ∈ l,d < B) (k:Nat):dg l k < B:=by
 unfold dg
 cases h:l[k]? with
 | none => simpa using hB
 | some z => exact hl z (List.mem_of_getElem? h)
theorem z1h {B:Nat} (l:List Nat) (k:Nat):val B (l.take (k + 1)) = val B (l.take k) + B ^ k * dg l k:=by
 by_cases h:k < l.length
 ·have e:l[k]? = some l[k]:=List.getElem?_eq_getElem h
  rw [z2l e,z0k e]
 ·rw [z2a (by omega),List.take_of_length_le (by omega),List.take_of_length_le (by omega)]
  simp
theorem z16 {B:Nat} (l:List Nat) (k:Nat):val B (l.drop k) = dg l k + B * val B (l.drop (k + 1)):=by
 by_cases h:k < l.length
 ·have e:l[k]? = some l[k]:=List.getElem?_eq_getElem h
  rw [z56 e,z0k e]
 ·rw [z2a (by omega),List.drop_eq_nil_of_le (by omega),List.drop_eq_nil_of_le (by omega)]
  simp [val]
theorem z7v {B:Nat} {o:List Nat} {i c X s:Nat} (hl:o.length = i) (h:val B o + B ^ i * c = X):val B (o ++ [(c + s) % B]) + B ^ (i + 1) * ((c + s) / B) = X + B ^ i * s:=by
 rw [z4i,hl,← h,Nat.pow_succ]
 have e:=Nat.mod_add_div (c + s) B
 have e2:=congrArg (B ^ i * ·) e
 simp only [Nat.mul_add] at e2 ⊢
 rw [Nat.mul_assoc]
 omega
theorem zji {B i c V:Nat} (_hB:0 < B) {o:List Nat} (h:val B o + B ^ i * c = V) (hV:V < B ^ i):c = 0:=by
 rcases Nat.eq_zero_or_pos c with h0 | h0
 ·exact h0
 ·have:B ^ i * 1 ≤ B ^ i * c:=Nat.mul_le_mul_left _ h0
  omega
theorem zee {B:Nat} {o:List Nat} {i c X Y x y:Nat} (hl:o.length = i) (h:val B o + Y = X + B ^ i * c) (d c':Nat) (hd:x + B * c' = d + y + c) :
  val B (o ++ [d]) + (Y + B ^ i * y) = (X + B ^ i * x) + B ^ (i + 1) * c':=by
 rw [z4i,hl,Nat.pow_succ]
 have e2:=congrArg (B ^ i * ·) hd
 simp only [Nat.mul_add] at e2 ⊢
 rw [Nat.mul_assoc]
 omega
theorem zjj {V n q r d:Nat} (h:V = q * n + r):10 * V + d = (10 * q + (10 * r + d) / n) * n + (10 * r + d) % n:=by
 have e:=Nat.div_add_mod (10 * r + d) n
 have e2:(10 * q + (10 * r + d) / n) * n = 10 * (q * n) + n * ((10 * r + d) / n):=by
  rw [Nat.add_mul,Nat.mul_assoc,Nat.mul_comm n]
 omega
theorem zef {B:Nat} (l:List Nat) (k z:Nat) (h:k < l.length):val B (l.set k z) + B ^ k * dg l k = val B l + B ^ k * z:=by
 induction l generalizing k with
 | nil => simp at h
 | cons d r ih =>
  cases k with
  | zero => simp [val,dg]; omega
  | succ k =>
   have ih:=ih k (by simpa using h)
   have e:=congrArg (B * ·) ih
   simp only [List.set_cons_succ,val,Nat.pow_succ,Nat.mul_add] at e ⊢
   rw [show dg (d :: r) (k + 1) = dg r k by simp [dg]]
   have e1:B ^ k * B * dg r k = B * (B ^ k * dg r k):=by rw [Nat.mul_comm (B ^ k) B,Nat.mul_assoc]
   have e2:B ^ k * B * z = B * (B ^ k * z):=by rw [Nat.mul_comm (B ^ k) B,Nat.mul_assoc]
   omega
theorem z6o {B:Nat} (hB:0 < B) {l:List Nat} {k:Nat} (h:val B l < B ^ k):∀ j,k ≤ j → j < l.length → dg l j = 0:=by
 induction l generalizing k with
 | nil => intro j _ hj; simp at hj
 | cons d r ih =>
  intro j hk hj
  cases k with
  | zero =>
   have h0:val B (d :: r) = 0:=by simpa using h
   simp only [val] at h0
   cases j with
   | zero => simp [dg]; omega
   | succ j =>
    have:val B r = 0:=by
     have h1:B * val B r = 0:=by omega
     rcases Nat.mul_eq_zero.1 h1 with h2 | h2
     ·omega
     ·exact h2
    have:=ih (k:=0) (by simpa using this) j (Nat.zero_le _) (by simpa using hj)
    simpa [dg] using this
  | succ k =>
   cases j with
   | zero => omega
   | succ j =>
    simp only [val,Nat.pow_succ] at h
    have hr:val B r < B ^ k:=by
     have:B * val B r < B * B ^ k:=by rw [Nat.mul_comm B (B ^ k)]; omega
     exact Nat.lt_of_mul_lt_mul_left this
    have:=ih hr j (by omega) (by simpa using hj)
    simpa [dg] using this
theorem z69 {B:Nat} (hB:2 ≤ B) {n m:Nat} (h:(rep B n).length < (rep B m).length):n < m:=by
 rcases Nat.lt_or_ge n m with h1 | h1
 ·exact h1
 ·exfalso
  have:(rep B m).length ≤ (rep B n).length:=z0d hB m _ (Nat.lt_of_le_of_lt h1 (z0s hB n))
  omega
theorem zag {B:Nat} {k:Nat} {l m:List Nat} (_hB:0 < B) (hl:∀ d ∈ l,d < B) (hx:dg l k < dg m k) (hk:k < l.length) (_hm:k < m.length) (ht:val B (l.drop (k + 1)) = val B (m.drop (k + 1))) (hlen:l.length = m.length):val B l < val B m:=by
 have e1:val B l = val B (l.take (k + 1)) + B ^ (k + 1) * val B (l.drop (k + 1)):=by
  conv => lhs; rw [← List.take_append_drop (k + 1) l]
  rw [z2x,List.length_take,Nat.min_eq_left (by omega)]
 have e2:val B m = val B (m.take (k + 1)) + B ^ (k + 1) * val B (m.drop (k + 1)):=by
  conv => lhs; rw [← List.take_append_drop (k + 1) m]
  rw [z2x,List.length_take,Nat.min_eq_left (by omega)]
 rw [e1,e2,ht,z1h,z1h]
 have h1:val B (l.take k) < B ^ (l.take k).length:=z13 _ (fun d hd => hl d (List.mem_of_mem_take hd))
 rw [List.length_take,Nat.min_eq_left (by omega)] at h1
 have h2:B ^ k * (dg l k + 1) ≤ B ^ k * dg m k:=Nat.mul_le_mul_left _ hx
 rw [Nat.mul_add] at h2
 omega
theorem z3k {B:Nat} {o xs ys:List Nat} {i c:Nat} (hl:o.length = i) (h:val B o + B ^ i * c = val B (xs.take i) + val B (ys.take i)) (s:Nat) (hs:s = dg xs i + dg ys i) :
  val B (o ++ [(c + s) % B]) + B ^ (i + 1) * ((c + s) / B) = val B (xs.take (i + 1)) + val B (ys.take (i + 1)):=by
 subst hs
 rw [z7v hl h,z1h xs,z1h ys,Nat.mul_add]
 omega
theorem zjk {B:Nat} (hB:2 ≤ B) {o xs ys:List Nat} {c:Nat} (hx:∀ z ∈ xs,z < B) (hy:∀ z ∈ ys,z < B) (hle:ys.length ≤ xs.length) (h:val B o + B ^ (xs.length + 1) * c = val B (xs.take (xs.length + 1)) + val B (ys.take (xs.length + 1))):val B o = val B xs + val B ys:=by
 rw [List.take_of_length_le (by omega),List.take_of_length_le (by omega)] at h
 have h1:=z13 xs hx
 have h2:=z13 ys hy
 have h3:B ^ ys.length ≤ B ^ xs.length:=Nat.pow_le_pow_right (by omega) hle
 have h4:B ^ (xs.length + 1) = B ^ xs.length * B:=Nat.pow_succ _ _
 have:c = 0:=zji (by omega) h (by rw [h4]; generalize B ^ xs.length = P at *; have:P * 2 ≤ P * B:=Nat.mul_le_mul_left _ hB; omega)
 subst this
 simpa using h
theorem z4j {B:Nat} {o xs ys:List Nat} {i c:Nat} (hl:o.length = i) (h:val B o + val B (ys.take i) = val B (xs.take i) + B ^ i * c) (d c':Nat) (hd:dg xs i + B * c' = d + dg ys i + c) :
  val B (o ++ [d]) + val B (ys.take (i + 1)) = val B (xs.take (i + 1)) + B ^ (i + 1) * c':=by
 rw [z1h xs,z1h ys]
 exact zee hl h d c' hd
theorem zjl {B:Nat} {o:List Nat} {n m c L:Nat} (ho:∀ z ∈ o,z < B) (hol:o.length = L) (hge:m ≤ n) (h:val B o + m = n + B ^ L * c):val B o = n - m:=by
 have h1:=z13 o ho
 rw [hol] at h1
 rcases Nat.eq_zero_or_pos c with h0 | h0
 ·subst h0; omega
 ·have:B ^ L * 1 ≤ B ^ L * c:=Nat.mul_le_mul_left _ h0
  omega
end
section
def cmpE (f g:Int → Int):Nat → Int
 | 0 => 0
 | n + 1 => if f (n + 1:Nat) = g (n + 1:Nat) then cmpE f g n else cmpI (f (n + 1:Nat)) (g (n + 1:Nat))
theorem zca (x:Int):cmpI x x = 0:=by simp [cmpI]
theorem z5j {x y:Int}:cmpI x y = 0 ↔ x = y:=by
 unfold cmpI
 split
 ·omega
 ·split <;> omega
theorem zb6 (x y:Int):cmpI y x = - cmpI x y:=by
 unfold cmpI
 split
 ·split
  ·omega
  ·omega
 ·split <;> simp
theorem z41 {x y:Int}:cmpI x y = 1 ↔ y < x:=by
 unfold cmpI
 split
 ·omega
 ·split <;> omega
theorem z2r {x y:Int}:cmpI x y = -1 ↔ x < y:=by
 unfold cmpI
 split
 ·omega
 ·split <;> omega
theorem z46 (x y:Int):cmpI x y = -1 ∨ cmpI x y = 0 ∨ cmpI x y = 1:=by
 unfold cmpI
 split
 ·simp
 ·split <;> simp
theorem zhh (f g:Int → Int) (n:Nat):cmpE f g n = -1 ∨ cmpE f g n = 0 ∨ cmpE f g n = 1:=by
 induction n with
 | zero => simp [cmpE]
 | succ n ih =>
  simp only [cmpE]
  split
  ·exact ih
  ·exact z46 _ _
theorem znj (f g:Int → Int) (n:Nat):cmpE g f n = - cmpE f g n:=by
 induction n with
 | zero => simp [cmpE]
 | succ n ih =>
  simp only [cmpE]
  by_cases h:f ((n + 1:Nat):Int) = g ((n + 1:Nat):Int)
  ·rw [if_pos h,if_pos h.symm]
   exact ih
  ·rw [if_neg h,if_neg (fun e => h e.symm)]
   exact zb6 _ _
theorem zjm {f g:Int → Int} {n:Nat}:cmpE f g n = 0 ↔ ∀ k:Nat,1 ≤ k → k ≤ n → f (k:Nat) = g (k:Nat):=by
 induction n with
 | zero =>
  simp only [cmpE,true_iff]
  intro k h1 h2
  omega
 | succ n ih =>
  simp only [cmpE]
  by_cases h:f ((n + 1:Nat):Int) = g ((n + 1:Nat):Int)
  ·rw [if_pos h,ih]
   constructor
   ·intro h2 k h3 h4
    by_cases hk:k = n + 1
    ·subst hk; exact h
    ·exact h2 k h3 (by omega)
   ·intro h2 k h3 h4
    exact h2 k h3 (by omega)
  ·rw [if_neg h,z5j]
   constructor
   ·intro e; exact absurd e h
   ·intro h2; exact h2 (n + 1) (by omega) (Nat.le_refl _)
theorem zhi {f g k:Int → Int} {n:Nat} (h1:cmpE f g n = 1) (h2:cmpE g k n = 1):cmpE f k n = 1:=by
 induction n with
 | zero => simp [cmpE] at h1
 | succ n ih =>
  simp only [cmpE] at h1 h2 ⊢
  generalize f ((n + 1:Nat):Int) = a at *
  generalize g ((n + 1:Nat):Int) = b at *
  generalize k ((n + 1:Nat):Int) = c at *
  by_cases hab:a = b
  ·subst hab
   rw [if_pos rfl] at h1
   by_cases hbc:a = c
   ·subst hbc
    rw [if_pos rfl] at h2 ⊢
    exact ih h1 h2
   ·rw [if_neg hbc] at h2 ⊢
    exact h2
  ·rw [if_neg hab] at h1
   rw [z41] at h1
   by_cases hbc:b = c
   ·subst hbc
    rw [if_neg hab,z41]
    exact h1
   ·rw [if_neg hbc,z41] at h2
    rw [if_neg (by omega),z41]
    omega
theorem z0t {last:Int} {m:Mono} (h:z0e last m = true) {v:Int} (hv:v ≤ last):ex m v = 0:=by
 induction m generalizing last with
 | nil => rfl
 | cons x r ih =>
  simp only [z0e,Bool.and_eq_true,decide_eq_true_eq] at h
  rw [ex,if_neg (by omega)]
  exact ih h.2 (by omega)
theorem z8t {last:Int} {m:Mono} (h:z0e last m = true) {v:Int} (hv:200 < v):ex m v = 0:=by
 induction m generalizing last with
 | nil => rfl
 | cons x r ih =>
  simp only [z0e,Bool.and_eq_true,decide_eq_true_eq] at h
  rw [ex,if_neg (by omega)]
  exact ih h.2
theorem z3l {last:Int} {m:Mono} (h:z0e last m = true) (v:Int):0 ≤ ex m v ∧ ex m v ≤ 10000:=by
 induction m generalizing last with
 | nil => simp [ex]
 | cons x r ih =>
  simp only [z0e,Bool.and_eq_true,decide_eq_true_eq] at h
  rw [ex]
  split
  ·omega
  ·exact ih h.2
theorem zeg {last:Int} {a b:Mono} (ha:z0e last a = true) (hb:z0e last b = true) (h:∀ v,ex a v = ex b v):a = b:=by
 induction a generalizing b last with
 | nil =>
  cases b with
  | nil => rfl
  | cons y b =>
   have:=h y.1
   simp only [z0e,Bool.and_eq_true,decide_eq_true_eq] at hb
   simp [ex] at this
   omega
 | cons x a ih =>
  cases b with
  | nil =>
   have:=h x.1
   simp only [z0e,Bool.and_eq_true,decide_eq_true_eq] at ha
   simp [ex] at this
   omega
  | cons y b =>
   simp only [z0e,Bool.and_eq_true,decide_eq_true_eq] at ha hb
   have h1:=h x.1
   have h2:=h y.1
   have e:x.1 = y.1:=by
    rcases Int.lt_trichotomy x.1 y.1 with g | g | g
    ·rw [ex,if_pos rfl,ex,if_neg (by omega),z0t hb.2 (by omega)] at h1
     omega
    ·exact g
    ·rw [ex,if_neg (by omega),z0t ha.2 (by omega),ex,if_pos rfl] at h2
     omega
   have e2:x.2 = y.2:=by
    rw [ex,if_pos rfl,ex,if_pos e.symm] at h1
    exact h1
   have:x = y:=Prod.ext e e2
   subst this
   congr 1
   refine ih ha.2 hb.2 (fun v => ?_)
   have:=h v
   rw [ex,ex] at this
   split at this
   ·rename_i hv
    rw [z0t ha.2 (by omega),z0t hb.2 (by omega)]
   ·exact this
theorem zg1 {a b:Mono} (ha:mayM a = true) (hb:mayM b = true) (h:∀ k:Nat,1 ≤ k → k ≤ 200 → ex a k = ex b k):a = b:=by
 refine zeg ha hb (fun v => ?_)
 by_cases h1:v ≤ 0
 ·rw [z0t ha h1,z0t hb h1]
 ·by_cases h2:200 < v
  ·rw [z8t ha h2,z8t hb h2]
  ·have:=h v.toNat (by omega) (by omega)
   rwa [Int.toNat_of_nonneg (by omega)] at this
def cmpD (f g:Int → Int) (c:Int) (lo:Int):Nat → Int
 | 0 => c
 | n + 1 => if f (lo + (n + 1:Nat)) = g (lo + (n + 1:Nat)) then cmpD f g c lo n else cmpI (f (lo + (n + 1:Nat))) (g (lo + (n + 1:Nat)))
theorem z4x {f g f' g':Int → Int} {c lo:Int} {n:Nat} (hf:∀ v,lo < v → f v = f' v) (hg:∀ v,lo < v → g v = g' v):cmpD f g c lo n = cmpD f' g' c lo n:=by
 induction n with
 | zero => rfl
 | succ n ih =>
  simp only [cmpD]
  rw [hf _ (by omega),hg _ (by omega),ih]
theorem z47 (f g:Int → Int) (c lo:Int) (n:Nat):cmpD f g c lo (n + 1) = cmpD f g (if f (lo + 1) = g (lo + 1) then c else cmpI (f (lo + 1)) (g (lo + 1))) (lo + 1) n:=by
 induction n with
 | zero => simp [cmpD]
 | succ n ih =>
  rw [cmpD,ih]
  conv => rhs; rw [cmpD]
  rw [show lo + ((n + 1 + 1:Nat):Int) = lo + 1 + ((n + 1:Nat):Int) by omega]
theorem z4y {f g:Int → Int} {c lo:Int} (k n:Nat) (h:∀ v,lo < v → v ≤ lo + k → f v = g v):cmpD f g c lo (k + n) = cmpD f g c (lo + k) n:=by
 induction k generalizing lo with
 | zero => simp
 | succ k ih =>
  rw [show k + 1 + n = (k + n) + 1 by omega,z47,if_pos (h _ (by omega) (by omega)),ih (fun v h1 h2 => h v (by omega) (by omega))]
  rw [show lo + 1 + (k:Int) = lo + ((k + 1:Nat):Int) by omega]
theorem zg2 {f g:Int → Int} {c lo:Int} (n:Nat) (h:∀ v,lo < v → v ≤ lo + n → f v = g v):cmpD f g c lo n = c:=by
 have:=z4y (f:=f) (g:=g) (c:=c) (lo:=lo) n 0 h
 simpa [cmpD] using this
theorem zjn (f g:Int → Int) (n:Nat):cmpD f g 0 0 n = cmpE f g n:=by
 induction n with
 | zero => rfl
 | succ n ih =>
  simp only [cmpD,cmpE,Int.zero_add,ih]
theorem z77 {last:Int} {b:Mono} (hb:z0e last b = true) (hl:last ≤ 200) (c:Int):cmpL (both [] b) c = cmpD (fun _ => 0) (ex b) c last (200 - last).toNat:=by
 induction b generalizing last c with
 | nil => rw [z72]; exact (zg2 _ (fun v _ _ => rfl)).symm
 | cons y b ih =>
  simp only [z0e,Bool.and_eq_true,decide_eq_true_eq] at hb
  obtain ⟨⟨h1,h2,h3,h4⟩,hb⟩:=hb
  rw [z65,cmpL,ih hb (by omega)]
  simp only
  have e:(200 - last).toNat = (y.1 - 1 - last).toNat + ((200 - y.1).toNat + 1):=by omega
  rw [e,z4y _ _ (fun v g1 g2 => by
   rw [ex,if_neg (by omega),z0t hb (by omega)]),z47]
  rw [show last + ((y.1 - 1 - last).toNat:Int) + 1 = y.1 by omega,ex,if_pos rfl]
  refine z4x (fun _ _ => rfl) (fun v hv => ?_)
  rw [ex,if_neg (by omega)]
theorem z6s {last:Int} {a:Mono} (ha:z0e last a = true) (hl:last ≤ 200) (c:Int):cmpL (both a []) c = cmpD (ex a) (fun _ => 0) c last (200 - last).toNat:=by
 induction a generalizing last c with
 | nil => rw [z72]; exact (zg2 _ (fun v _ _ => rfl)).symm
 | cons y b ih =>
  simp only [z0e,Bool.and_eq_true,decide_eq_true_eq] at ha
  obtain ⟨⟨h1,h2,h3,h4⟩,hb⟩:=ha
  rw [z73,cmpL,ih hb (by omega)]
  simp only
  have e:(200 - last).toNat = (y.1 - 1 - last).toNat + ((200 - y.1).toNat + 1):=by omega
  rw [e,z4y _ _ (fun v g1 g2 => by
   rw [ex,if_neg (by omega),z0t hb (by omega)]),z47]
  rw [show last + ((y.1 - 1 - last).toNat:Int) + 1 = y.1 by omega,ex,if_pos rfl]
  refine z4x (fun v hv => ?_) (fun _ _ => rfl)
  rw [ex,if_neg (by omega)]
theorem zjo {last:Int} {a b:Mono} (ha:z0e last a = true) (hb:z0e last b = true) (hl:last ≤ 200) (c:Int):cmpL (both a b) c = cmpD (ex a) (ex b) c last (200 - last).toNat:=by
 generalize hn:a.length + b.length = n
 induction n using Nat.strongRecOn generalizing a b last c with
 | ind n ih =>
 cases a with
 | nil => exact z77 hb hl c
 | cons x a =>
  cases b with
  | nil => exact z6s ha hl c
  | cons y b =>
   have hA:=ha
   have hB:=hb
   simp only [z0e,Bool.and_eq_true,decide_eq_true_eq] at ha hb
   obtain ⟨⟨a1,a2,a3,a4⟩,ha⟩:=ha
   obtain ⟨⟨b1,b2,b3,b4⟩,hb⟩:=hb
   simp only [List.length_cons] at hn
   rw [z74]
   split
   ·rename_i hlt
    have hb':z0e x.1 (y :: b) = true:=by simp only [z0e,Bool.and_eq_true,decide_eq_true_eq]; exact ⟨⟨hlt,b2,b3,b4⟩,hb⟩
    rw [cmpL,ih _ (by simp only [List.length_cons]; omega) ha hb' (by omega) _ rfl]
    have e:(200 - last).toNat = (x.1 - 1 - last).toNat + ((200 - x.1).toNat + 1):=by omega
    rw [e,z4y _ _ (fun v g1 g2 => by
     rw [ex,if_neg (by omega),z0t ha (by omega),z0t hb' (by omega)]),z47]
    rw [show last + ((x.1 - 1 - last).toNat:Int) + 1 = x.1 by omega]
    rw [show ex (x :: a) x.1 = x.2 by rw [ex,if_pos rfl],z0t hb' (Int.le_refl _)]
    refine z4x (fun v hv => ?_) (fun v hv => rfl)
    rw [ex,if_neg (by omega)]
   ·split
    ·rename_i hnlt hlt
     have ha':z0e y.1 (x :: a) = true:=by simp only [z0e,Bool.and_eq_true,decide_eq_true_eq]; exact ⟨⟨hlt,a2,a3,a4⟩,ha⟩
     rw [cmpL,ih _ (by simp only [List.length_cons]; omega) ha' hb (by omega) _ rfl]
     have e:(200 - last).toNat = (y.1 - 1 - last).toNat + ((200 - y.1).toNat + 1):=by omega
     rw [e,z4y _ _ (fun v g1 g2 => by
      rw [z0t ha' (by omega),ex,if_neg (by omega),z0t hb (by omega)]),z47]
     rw [show last + ((y.1 - 1 - last).toNat:Int) + 1 = y.1 by omega]
     rw [show ex (y :: b) y.1 = y.2 by rw [ex,if_pos rfl],z0t ha' (Int.le_refl _)]
     refine z4x (fun v hv => rfl) (fun v hv => ?_)
     rw [ex,if_neg (by omega)]
    ·rename_i h1 h2
     have hxy:x.1 = y.1:=by omega
     rw [hxy] at ha
     rw [cmpL,ih _ (by omega) ha hb (by omega) _ rfl]
     have e:(200 - last).toNat = (y.1 - 1 - last).toNat + ((200 - y.1).toNat + 1):=by omega
     rw [e,z4y _ _ (fun v g1 g2 => by
      rw [ex,if_neg (by omega),z0t ha (by omega),ex,if_neg (by omega),z0t hb (by omega)]),z47]
     rw [show last + ((y.1 - 1 - last).toNat:Int) + 1 = y.1 by omega]
     rw [show ex (x :: a) y.1 = x.2 by rw [ex,if_pos hxy],show ex (y :: b) y.1 = y.2 by rw [ex,if_pos rfl]]
     refine z4x (fun v hv => ?_) (fun v hv => ?_)
     ·rw [ex,if_neg (by omega)]
     ·rw [ex,if_neg (by omega)]
theorem z2e {a b:Mono} (ha:mayM a = true) (hb:mayM b = true):z0i a b = cmpE (ex a) (ex b) 200:=by
 unfold z0i
 rw [zjo ha hb (by omega),← zjn]
 rfl
theorem z12 {a b:Mono} (ha:mayM a = true) (hb:mayM b = true):z0i a b = -1 ∨ z0i a b = 0 ∨ z0i a b = 1:=by
 rw [z2e ha hb]; exact zhh _ _ _
theorem z5k {a b:Mono} (ha:mayM a = true) (hb:mayM b = true):z0i b a = - z0i a b:=by
 rw [z2e ha hb,z2e hb ha]; exact znj _ _ _
theorem z1o {a b:Mono} (ha:mayM a = true) (hb:mayM b = true):z0i a b = 0 ↔ a = b:=by
 rw [z2e ha hb,zjm]
 constructor
 ·intro h
  exact zg1 ha hb (fun k h1 h2 => h k h1 h2)
 ·rintro rfl; intro _ _ _; rfl
theorem z3m {a b c:Mono} (ha:mayM a = true) (hb:mayM b = true) (hc:mayM c = true) (h1:z0i a b = 1) (h2:z0i b c = 1):z0i a c = 1:=by
 rw [z2e ha hb] at h1
 rw [z2e hb hc] at h2
 rw [z2e ha hc]
 exact zhi h1 h2
end
section
abbrev PZ:=List (Int × Mono)
def cf:PZ → Mono → Int
 | [],_ => 0
 | t :: r,m => (if t.2 = m then t.1 else 0) + cf r m
theorem z9a (p q:PZ) (m:Mono):cf (p ++ q) m = cf p m + cf q m:=by
 induction p with
 | nil => simp [cf]
 | cons t r ih => simp only [List.cons_append,cf,ih]; omega
theorem zjp {p:PZ} {m:Mono} (h:∀ t ∈ p,t.2 ≠ m):cf p m = 0:=by
 induction p with
 | nil => rfl
 | cons t r ih =>
  rw [cf,if_neg (h t (by simp)),ih (fun u hu => h u (by simp [hu]))]
  rfl
theorem zqy {p q:PZ} (h:p.Perm q) (m:Mono):cf p m = cf q m:=by
 induction h with
 | nil => rfl
 | cons _ _ ih => simp only [cf,ih]
 | swap _ _ _ => simp only [cf]; omega
 | trans _ _ h1 h2 => exact h1.trans h2
def z0p (p:PZ):Prop:=∀ t ∈ p,mayM t.2 = true
def canP (p:PZ):Prop:=(∀ t ∈ p,t.1 ≠ 0 ∧ mayM t.2 = true) ∧ p.Pairwise (fun a b => z0i a.2 b.2 = 1)
theorem canP.may {p:PZ} (h:canP p):z0p p:=fun t ht => (h.1 t ht).2
theorem z33:canP []:=⟨fun t ht => by simp at ht,List.Pairwise.nil⟩
theorem canP.tail {t:Int × Mono} {p:PZ} (h:canP (t :: p)):canP p:=⟨fun u hu => h.1 u (by simp [hu]),(List.pairwise_cons.1 h.2).2⟩
theorem canP.head {t:Int × Mono} {p:PZ} (h:canP (t :: p)):∀ u ∈ p,z0i t.2 u.2 = 1:=(List.pairwise_cons.1 h.2).1
theorem z34 (m:Mono) (h:mayM m = true):z0i m m = 0:=(z1o h h).2 rfl
theorem canP.cf_head {t:Int × Mono} {p:PZ} (h:canP (t :: p)):cf (t :: p) t.2 = t.1:=by
 rw [cf,if_pos rfl,zjp,Int.add_zero]
 intro u hu e
 have h1:=h.head u hu
 rw [e,z34 _ (h.1 t (by simp)).2] at h1
 omega
theorem canP.cf_mem {p:PZ} (h:canP p) {t:Int × Mono} (ht:t ∈ p):cf p t.2 = t.1:=by
 induction p with
 | nil => simp at ht
 | cons u r ih =>
  rcases List.mem_cons.1 ht with rfl | ht
  ·exact h.cf_head
  ·rw [cf,if_neg,ih h.tail ht]
   ·omega
   ·intro e
    have h1:=h.head t ht
    rw [e,z34 _ (h.1 t (by simp [ht])).2] at h1
    omega
theorem canP.mem_of_cf {p:PZ} {m:Mono} (hc:cf p m ≠ 0):∃ t ∈ p,t.2 = m:=by
 by_cases h:∃ t ∈ p,t.2 = m
 ·exact h
 ·exact absurd (zjp (fun t ht e => h ⟨t,ht,e⟩)) hc
theorem zb7 {p q:PZ} (hp:canP p) (hq:canP q) (h:∀ m,mayM m = true → cf p m = cf q m):p = q:=by
 induction p generalizing q with
 | nil =>
  cases q with
  | nil => rfl
  | cons u q =>
   have:=h u.2 (hq.1 u (by simp)).2
   rw [hq.cf_head] at this
   exact absurd this.symm (hq.1 u (by simp)).1
 | cons t p ih =>
  cases q with
  | nil =>
   have:=h t.2 (hp.1 t (by simp)).2
   rw [hp.cf_head] at this
   exact absurd this (hp.1 t (by simp)).1
  | cons u q =>
   have ht:=hp.1 t (by simp)
   have hu:=hq.1 u (by simp)
   have e1:=h t.2 ht.2
   have e2:=h u.2 hu.2
   rw [hp.cf_head] at e1
   rw [hq.cf_head] at e2
   have e:t.2 = u.2:=by
    rcases z12 ht.2 hu.2 with g | g | g
    ·exfalso
     obtain ⟨s,hs,hse⟩:=canP.mem_of_cf (p:=t :: p) (m:=u.2) (by rw [e2]; exact hu.1)
     rcases List.mem_cons.1 hs with rfl | hs
     ·rw [hse,z34 _ hu.2] at g; omega
     ·have:=hp.head s hs
      rw [hse] at this
      omega
    ·exact (z1o ht.2 hu.2).1 g
    ·exfalso
     obtain ⟨s,hs,hse⟩:=canP.mem_of_cf (p:=u :: q) (m:=t.2) (by rw [← e1]; exact ht.1)
     rcases List.mem_cons.1 hs with rfl | hs
     ·rw [hse,z34 _ ht.2] at g; omega
     ·have:=hq.head s hs
      rw [hse,z5k ht.2 hu.2] at this
      omega
   have e3:t.1 = u.1:=by
    have:=hq.cf_head
    rw [← e] at this
    omega
   have:t = u:=Prod.ext e3 e
   subst this
   congr 1
   refine ih hp.tail hq.tail (fun m hm => ?_)
   have:=h m hm
   simp only [cf] at this
   omega
def putP:PZ → Int → Mono → PZ
 | [],c,m => if c = 0 then [] else [(c,m)]
 | t :: r,c,m => if z0i t.2 m = 1 then t :: putP r c m else if z0i t.2 m = 0 then (if c + t.1 = 0 then r else (c + t.1,m) :: r) else if c = 0 then t :: r else (c,m) :: t :: r
theorem zg3 {p:PZ} {c:Int} {m:Mono} {t:Int × Mono} (h:t ∈ putP p c m):t ∈ p ∨ t.2 = m:=by
 induction p with
 | nil =>
  simp only [putP] at h
  split at h
  ·simp at h
  ·right; rw [List.mem_singleton.1 h]
 | cons u r ih =>
  simp only [putP] at h
  split at h
  ·rcases List.mem_cons.1 h with rfl | h
   ·simp
   ·rcases ih h with h | h
    ·simp [h]
    ·exact .inr h
  ·split at h
   ·split at h
    ·simp [h]
    ·rcases List.mem_cons.1 h with rfl | h
     ·exact .inr rfl
     ·simp [h]
   ·split at h
    ·exact .inl h
    ·rcases List.mem_cons.1 h with rfl | h
     ·exact .inr rfl
     ·exact .inl h
theorem znk {p:PZ} (hp:canP p) (c:Int) {m:Mono} (hm:mayM m = true):canP (putP p c m) ∧ ∀ m',cf (putP p c m) m' = cf p m' + if m = m' then c else 0:=by
 induction p with
 | nil =>
  simp only [putP]
  split
  ·rename_i h0
   subst h0
   exact ⟨z33,fun m' => by simp [cf]⟩
  ·rename_i h0
   exact ⟨⟨fun t ht => by rw [List.mem_singleton.1 ht]; exact ⟨h0,hm⟩,List.pairwise_singleton _ _⟩,fun m' => by simp [cf]⟩
 | cons t r ih =>
  obtain ⟨ih1,ih2⟩:=ih hp.tail
  have ht:=hp.1 t (by simp)
  simp only [putP]
  split
  ·rename_i h1
   refine ⟨⟨fun u hu => ?_,List.pairwise_cons.2 ⟨fun u hu => ?_,ih1.2⟩⟩,fun m' => ?_⟩
   ·rcases List.mem_cons.1 hu with rfl | hu
    ·exact ht
    ·exact ih1.1 u hu
   ·rcases zg3 hu with hu | hu
    ·exact hp.head u hu
    ·rw [hu]; exact h1
   ·simp only [cf,ih2]; omega
  ·rename_i h1
   split
   ·rename_i h2
    have e:=(z1o ht.2 hm).1 h2
    split
    ·rename_i h3
     refine ⟨hp.tail,fun m' => ?_⟩
     simp only [cf,e]
     split <;> omega
    ·rename_i h3
     refine ⟨⟨fun u hu => ?_,List.pairwise_cons.2 ⟨fun u hu => ?_,hp.tail.2⟩⟩,fun m' => ?_⟩
     ·rcases List.mem_cons.1 hu with rfl | hu
      ·exact ⟨h3,hm⟩
      ·exact hp.tail.1 u hu
     ·have:=hp.head u hu
      rw [e] at this
      exact this
     ·simp only [cf,e]
      split <;> omega
   ·rename_i h2
    have h3:z0i m t.2 = 1:=by
     have:=z5k ht.2 hm
     rcases z12 ht.2 hm with g | g | g <;> omega
    split
    ·rename_i h4
     subst h4
     exact ⟨hp,fun m' => by split <;> omega⟩
    ·rename_i h4
     refine ⟨⟨fun u hu => ?_,List.pairwise_cons.2 ⟨fun u hu => ?_,hp.2⟩⟩,fun m' => ?_⟩
     ·rcases List.mem_cons.1 hu with rfl | hu
      ·exact ⟨h4,hm⟩
      ·exact hp.1 u hu
     ·rcases List.mem_cons.1 hu with rfl | hu
      ·exact h3
      ·exact z3m hm ht.2 (hp.1 u (by simp [hu])).2 h3 (hp.head u hu)
     ·simp only [cf]; omega
def addP (p l:PZ):PZ:=l.foldl (fun p t => putP p t.1 t.2) p
def z25 (l:PZ):PZ:=addP [] l
theorem z6a {p:PZ} (hp:canP p) {l:PZ} (hl:z0p l):canP (addP p l) ∧ ∀ m,cf (addP p l) m = cf p m + cf l m:=by
 induction l generalizing p with
 | nil => exact ⟨hp,fun m => by simp [addP,cf]⟩
 | cons t r ih =>
  obtain ⟨h1,h2⟩:=znk hp t.1 (hl t (by simp))
  obtain ⟨h3,h4⟩:=ih h1 (fun u hu => hl u (by simp [hu]))
  refine ⟨h3,fun m => ?_⟩
  show cf (addP (putP p t.1 t.2) r) m = _
  rw [h4,h2]
  simp only [cf]
  omega
theorem z5l {l:PZ} (hl:z0p l):canP (z25 l):=(z6a z33 hl).1
theorem z8u {l:PZ} (hl:z0p l) (m:Mono):cf (z25 l) m = cf l m:=by
 have:=(z6a z33 hl).2 m
 simp only [cf] at this
 unfold z25
 omega
theorem z5m {p:PZ} (h:canP p):z25 p = p:=zb7 (z5l h.may) h (fun m _ => z8u h.may m)
theorem z78 {p q:PZ} (hp:z0p p) (hq:z0p q):z0p (p ++ q):=fun t ht => by
 rcases List.mem_append.1 ht with h | h
 ·exact hp t h
 ·exact hq t h
theorem zeh {p l:PZ} (hp:canP p) (hl:z0p l):addP p l = z25 (p ++ l) :=
 zb7 (z6a hp hl).1 (z5l (z78 hp.may hl)) (fun m _ => by rw [(z6a hp hl).2,z8u (z78 hp.may hl),z9a])
theorem zcb {p q:PZ} (h:canP p) (hs:q.Sublist p):canP q:=⟨fun t ht => h.1 t (hs.subset ht),h.2.sublist hs⟩
end
section
end
section
abbrev B32:Nat:=4294967296
theorem z01:2 ≤ B32:=by decide
def valI (r:RInt):Int:=if r.neg then -(val B32 r.mag:Int) else (val B32 r.mag:Int)
def ofI (z:Int):RInt:=⟨decide (z < 0),rep B32 z.natAbs⟩
def okI (r:RInt):Prop:=∀ z ∈ r.mag,z < B32
def mayI (r:RInt):Bool:=match r.mag.getLast? with
 | none => !r.neg
 | some z => decide (z ≠ 0)
def z18 (z:Int):Int:=cmpI z 0
theorem z1t (z:Int):valI (ofI z) = z:=by
 unfold valI ofI
 simp only
 rw [z0c z01]
 by_cases h:z < 0
 ·simp [h]; omega
 ·simp [h]; omega
theorem zjq {r:RInt} (h:mayI r = true):r.mag.getLast? ≠ some 0:=by
 unfold mayI at h
 intro e
 rw [e] at h
 simp at h
theorem zb8 {r:RInt} (hok:okI r) (h:mayI r = true):ofI (valI r) = r:=by
 have hl:=zjq h
 have hr:=zqx z01 r.mag hok hl
 obtain ⟨ng,mg⟩:=r
 simp only at hl hr
 unfold mayI at h
 simp only at h
 unfold ofI valI
 simp only
 cases ng with
 | false =>
  simp [hr]
 | true =>
  have hpos:0 < val B32 mg:=by
   rcases Nat.eq_zero_or_pos (val B32 mg) with h0 | h0
   ·exfalso
    rw [h0,z2k] at hr
    rw [← hr] at h
    simp at h
   ·exact h0
  simp [hr]
  omega
theorem zg4 (z:Int):mayI (ofI z) = true:=by
 unfold mayI ofI
 simp only
 cases h:(rep B32 z.natAbs).getLast? with
 | none =>
  have h0:rep B32 z.natAbs = []:=List.getLast?_eq_none_iff.1 h
  rw [z1u z01] at h0
  simp
  omega
 | some x =>
  simp
  intro e
  subst e
  exact zb5 z01 _ h
def toP (ts:List RTerm):PZ:=ts.map fun t => (valI t.c,t.m)
def ofP (p:PZ):List RTerm:=p.map fun t => ⟨ofI t.1,t.2⟩
def okT (ts:List RTerm):Prop:=∀ t ∈ ts,okI t.c
theorem z3x (p:PZ):toP (ofP p) = p:=by
 induction p with
 | nil => rfl
 | cons t r ih =>
  have e:toP (ofP (t :: r)) = (valI (ofI t.1),t.2) :: toP (ofP r):=rfl
  rw [e,ih,z1t]
def z17 (t:RTerm):Bool:=decide (val B32 t.c.mag ≠ 0) && mayI t.c && mayM t.m
def z3y:Option RTerm → List RTerm → Bool
 | _,[] => true
 | last,t :: r => z17 t && (match last with | none => true | some u => decide (0 < z3e u.m t.m)) && z3y (some t) r
def mayT (ts:List RTerm):Bool:=z3y none ts
theorem z5n {last:Option RTerm} {ts:List RTerm} (h:z3y last ts = true) :
  (∀ t ∈ ts,z17 t = true) ∧ (ts.Pairwise fun a b => z0i a.m b.m = 1) ∧ ∀ u,last = some u → mayM u.m = true → ∀ t ∈ ts,z0i u.m t.m = 1:=by
 induction ts generalizing last with
 | nil => exact ⟨fun t ht => by simp at ht,List.Pairwise.nil,fun u _ _ t ht => by simp at ht⟩
 | cons t r ih =>
  simp only [z3y,Bool.and_eq_true] at h
  obtain ⟨⟨h1,h2⟩,h3⟩:=h
  obtain ⟨i1,i2,i3⟩:=ih h3
  have hm:mayM t.m = true:=by
   simp only [z17,Bool.and_eq_true] at h1
   exact h1.2
  have hmr:∀ u ∈ r,mayM u.m = true:=fun u hu => by
   have:=i1 u hu
   simp only [z17,Bool.and_eq_true] at this
   exact this.2
  refine ⟨fun u hu => ?_,List.pairwise_cons.2 ⟨fun u hu => i3 t rfl hm u hu,i2⟩,fun u hu hum s hs => ?_⟩
  ·rcases List.mem_cons.1 hu with rfl | hu
   ·exact h1
   ·exact i1 u hu
  ·subst hu
   simp only [decide_eq_true_eq] at h2
   unfold z3e at h2
   rw [hum,hm] at h2
   simp only [Bool.and_self,if_true] at h2
   have h4:z0i u.m t.m = 1:=by rcases z12 hum hm with g | g | g <;> omega
   rcases List.mem_cons.1 hs with rfl | hs
   ·exact h4
   ·exact z3m hum hm (hmr s hs) h4 (i3 t rfl hm s hs)
theorem znl {ts:List RTerm} (h:mayT ts = true):canP (toP ts):=by
 obtain ⟨h1,h2,_⟩:=z5n h
 refine ⟨fun t ht => ?_,?_⟩
 ·obtain ⟨u,hu,rfl⟩:=List.mem_map.1 ht
  have:=h1 u hu
  simp only [z17,Bool.and_eq_true,decide_eq_true_eq] at this
  refine ⟨?_,this.2⟩
  unfold valI
  simp only
  split <;> omega
 ·unfold toP
  rw [List.pairwise_map]
  exact h2
theorem zqz {ts:List RTerm} (hok:okT ts) (h:mayT ts = true):ofP (toP ts) = ts:=by
 have h1:=(z5n h).1
 clear h
 induction ts with
 | nil => rfl
 | cons t r ih =>
  have h2:=h1 t (by simp)
  simp only [z17,Bool.and_eq_true] at h2
  have e:ofP (toP (t :: r)) = ⟨ofI (valI t.c),t.m⟩ :: ofP (toP r):=rfl
  rw [e,ih (fun u hu => hok u (by simp [hu])) (fun u hu => h1 u (by simp [hu])),zb8 (hok t (by simp)) h2.1.2]
theorem zhj {last:Option RTerm} {ts:List RTerm} (h1:∀ t ∈ ts,z17 t = true) (h2:ts.Pairwise fun a b => z0i a.m b.m = 1) (h3:∀ u,last = some u → mayM u.m = true ∧ ∀ t ∈ ts,z0i u.m t.m = 1):z3y last ts = true:=by
 induction ts generalizing last with
 | nil => rfl
 | cons t r ih =>
  simp only [z3y,Bool.and_eq_true]
  have ht:=h1 t (by simp)
  have hm:mayM t.m = true:=by
   have:=ht
   simp only [z17,Bool.and_eq_true] at this
   exact this.2
  refine ⟨⟨ht,?_⟩,ih (fun u hu => h1 u (by simp [hu])) (List.pairwise_cons.1 h2).2 (fun u hu => ?_)⟩
  ·cases last with
   | none => rfl
   | some u =>
    obtain ⟨g1,g2⟩:=h3 u rfl
    have:=g2 t (by simp)
    simp only [decide_eq_true_eq]
    unfold z3e
    simp [g1,hm,this]
  ·obtain rfl:t = u:=by simpa using hu
   exact ⟨hm,(List.pairwise_cons.1 h2).1⟩
theorem zb9 {p:PZ} (h:canP p):mayT (ofP p) = true:=by
 refine zhj (fun t ht => ?_) ?_ (fun u hu => by simp at hu)
 ·obtain ⟨u,hu,rfl⟩:=List.mem_map.1 ht
  have:=h.1 u hu
  simp only [z17,Bool.and_eq_true,decide_eq_true_eq]
  refine ⟨⟨?_,zg4 _⟩,this.2⟩
  unfold ofI
  simp only
  rw [z0c z01]
  omega
 ·unfold ofP
  rw [List.pairwise_map]
  exact h.2
def z21 (ts:List RTerm):PZ:=if mayT ts then toP ts else []
theorem zhk (ts:List RTerm):canP (z21 ts):=by
 unfold z21
 split
 ·exact znl (by assumption)
 ·exact z33
end
section
open Go.RowKit
abbrev New (w w':World):Nat → Prop:=fun k => w.heap.size ≤ k ∧ k < w'.heap.size
theorem Tryz.infoU32:(Tryz.prog.info? 148).map (fun i => (i.zero,i.size,i.bytes)) = some (some (.int .u32 0),1,4):=by kernel_rfl
section
variable {S S':Nat → Prop} {w w':World} {v:Value}
theorem U32s.len_le {zs:List Nat} (h:U32s S w v zs):zs.length ≤ 9223372036854775807:=by
 obtain ⟨b,off,⟨a,cap,h1,h2,h3,_⟩,_⟩:=h
 unfold maxLen at h3
 omega
theorem U32s.lt {zs:List Nat} (h:U32s S w v zs):∀ z ∈ zs,z < B32:=by
 obtain ⟨b,off,hs,hc⟩:=h
 intro z hz
 obtain ⟨j,hj⟩:=List.getElem?_of_mem hz
 exact (hc j z hj).1
theorem U32s.at {zs:List Nat} {k z:Nat} (h:U32s S w v zs) (hz:zs[k]? = some z) :
  ∃ b off cap,v = .slice (some ⟨b,off,none⟩) zs.length cap ∧ zs.length ≤ cap ∧ cap ≤ 9223372036854775807 ∧ z < 4294967296 ∧ w.cell? ⟨b,off + k,none⟩ = some (.int .u32 (z:Nat)):=by
 obtain ⟨b,off,⟨a,cap,rfl,h2,h3,h4,h5⟩,hc⟩:=h
 obtain rfl:=h4 (by have:=z03 hz; omega)
 exact ⟨b,off,cap,rfl,h2,h3,hc k z hz⟩
theorem U32s.cellAt {zs:List Nat} {a:Option Addr} {n cap k z:Nat} (h:U32s S w (.slice a n cap) zs) (hz:zs[k]? = some z) :
  ∃ b off,a = some ⟨b,off,none⟩ ∧ n = zs.length ∧ n ≤ cap ∧ cap ≤ 9223372036854775807 ∧ S b ∧ z < 4294967296 ∧ w.cell? ⟨b,off + k,none⟩ = some (.int .u32 (z:Nat)):=by
 obtain ⟨b,off,⟨a',cap',h1,h2,h3,h4,h5⟩,hc⟩:=h
 obtain ⟨rfl,rfl,rfl⟩:a = a' ∧ n = zs.length ∧ cap = cap':=by simpa using h1
 have hp:0 < zs.length:=by have:=z03 hz; omega
 exact ⟨b,off,h4 hp,rfl,h2,h3,h5 hp,hc k z hz⟩
theorem U32s.take {zs:List Nat} {a:Option Addr} {n cap k:Nat} (h:U32s S w (.slice a n cap) zs) (hk:k ≤ n):U32s S w (.slice a k cap) (zs.take k):=by
 obtain ⟨b,off,⟨a',cap',h1,h2,h3,h4,h5⟩,hc⟩:=h
 obtain ⟨rfl,rfl,rfl⟩:a = a' ∧ n = zs.length ∧ cap = cap':=by simpa using h1
 have hl:(zs.take k).length = k:=by rw [List.length_take]; omega
 refine ⟨b,off,⟨a,cap,by rw [hl],by omega,h3,fun h => h4 (by omega),fun h => h5 (by omega)⟩,fun j z hz => hc j z ?_⟩
 rw [List.getElem?_take] at hz
 split at hz
 ·exact hz
 ·simp at hz
theorem U32s.nilv (S:Nat → Prop) (w:World) (a:Option Addr) (cap:Nat) (h:cap ≤ 9223372036854775807):U32s S w (.slice a 0 cap) [] :=
 ⟨0,0,⟨a,cap,rfl,Nat.zero_le _,by unfold maxLen; omega,fun h => absurd h (Nat.lt_irrefl _),fun h => absurd h (Nat.lt_irrefl _)⟩,fun j x hx => by simp at hx⟩
def rowU (o:List Nat):Nat → Value:=fun j => .int .u32 (dg o j:Nat)
theorem z26 {T:TypeId} {n g:Nat} {o:List Nat} (h:w.rowIs g T n (rowU o)) (z:Nat):(w.setCell ⟨g,o.length,none⟩ (.int .u32 (z:Nat))).rowIs g T n (rowU (o ++ [z])):=by
 refine (h.set o.length (.int .u32 (z:Nat))).congr (fun i hi => ?_)
 unfold rowU dg
 by_cases e:i = o.length
 ·subst e
  simp
 ·rw [if_neg e]
  by_cases hl:i < o.length
  ·rw [List.getElem?_append_left hl]
  ·rw [List.getElem?_eq_none (by omega),List.getElem?_eq_none (by simp; omega)]
theorem z57 {T:TypeId} {n g:Nat} {o:List Nat} (h:w.rowIs g T n (rowU o)) (k z:Nat) (hk:k < o.length):(w.setCell ⟨g,k,none⟩ (.int .u32 (z:Nat))).rowIs g T n (rowU (o.set k z)):=by
 refine (h.set k (.int .u32 (z:Nat))).congr (fun i hi => ?_)
 unfold rowU dg
 rw [List.getElem?_set]
 by_cases e:i = k
 ·subst e
  simp [hk]
 ·rw [if_neg e,if_neg (fun h => e h.symm)]
theorem z9b (w:World) (n:Nat) (T:TypeId):(w.alloc (.cells (madeCells #[.int .u32 0] n) T)).rowIs w.heap.size T n (rowU []) :=
 (World.rowIs_made w (.int .u32 0) n T).congr (fun i _ => by simp [rowU,dg])
theorem z6b (w:World) (n:Nat) (T:TypeId):(w.alloc (.cells (madeCells #[.int .u32 0] n) T)).rowIs w.heap.size T n (rowU (List.replicate n 0)) :=
 (World.rowIs_made w (.int .u32 0) n T).congr (fun i hi => by simp [rowU,dg,hi])
def uval (z:Nat):Value:=.int .u32 (z:Nat)
theorem zcc (n:Nat):madeCells #[Value.int .u32 0] n = (List.replicate n (Value.int .u32 0)).toArray:=by
 apply Array.ext
 ·simp [madeCells]
 ·intro i h1 h2
  simp [madeCells,Nat.mod_one]
theorem U32s.of_block {T:TypeId} {g:Nat} {o:List Nat} (h:w.heap[g]? = some (.cells (o.map uval).toArray T (0,0))) (hl:∀ z ∈ o,z < B32) (hc:o.length ≤ 9223372036854775807) (a:Option Addr) (ha:0 < o.length → a = some ⟨g,0,none⟩):U32s (fun k => k = g) w (.slice a o.length o.length) o:=by
 refine ⟨g,0,⟨_,o.length,rfl,Nat.le_refl _,by unfold maxLen; omega,ha,fun _ => rfl⟩,fun j z hz => ⟨hl z (List.mem_of_getElem? hz),?_⟩⟩
 rw [Nat.zero_add,cell_of_row w g j _ T (0,0) h]
 simp [hz,uval]
theorem zah {α:Type} (L cs:List α) (h:L.length = cs.length):splice L 0 cs = cs:=by simp [splice,h]
theorem U32s.src {zs:List Nat} {a:Option Addr} {n cap:Nat} (h:U32s S w (.slice a n cap) zs) (hpos:0 < (zs.map uval).length):∃ ad,a = some ad ∧ ∀ j v,(zs.map uval)[j]? = some v → w.cell? (ad.add j) = some v:=by
 obtain ⟨b,off,⟨a',cap',h1,h2,h3,h4,h5⟩,hc⟩:=h
 obtain ⟨rfl,rfl,rfl⟩:a = a' ∧ n = zs.length ∧ cap = cap':=by simpa using h1
 refine ⟨_,h4 (by simpa using hpos),fun j v hv => ?_⟩
 rw [List.getElem?_map] at hv
 cases hz:zs[j]? with
 | none => simp [hz] at hv
 | some z =>
  obtain rfl:uval z = v:=by simpa [hz] using hv
  rw [show (⟨b,off,none⟩:Addr).add j = ⟨b,off + j,none⟩ by unfold Addr.add; split <;> simp_all]
  exact (hc j z hz).2
theorem U32s.of_row {T:TypeId} {g cap:Nat} {o:List Nat} (h:w.rowIs g T cap (rowU o)) (ho:o.length ≤ cap) (hl:∀ z ∈ o,z < B32) (hc:cap ≤ 9223372036854775807):U32s (fun k => k = g) w (.slice (some ⟨g,0,none⟩) o.length cap) o:=by
 refine ⟨g,0,⟨_,cap,rfl,ho,by unfold maxLen; omega,fun _ => rfl,fun _ => rfl⟩,fun j z hz => ⟨hl z (List.mem_of_getElem? hz),?_⟩⟩
 have hj:=z03 hz
 rw [Nat.zero_add,h.cell (i:=j) (by omega)]
 simp [rowU,dg,hz]
end
end
section
open Go.RowKit
theorem z1p {S:Nat → Prop} (v:Value) (zs:List Nat) (w:World) (h:U32s S w v zs) :
  Calls Tryz.prog 121 #[v] w fun e w' => ∃ v',e = .returned v' ∧ U32s S w v' (rep B32 (val B32 zs)) ∧ w = w':=by
 have hl:=h.len_le
 have H:=hid h
 obtain ⟨a,cap,rfl⟩:=h.form
 clear h
 go_enter Tryz.func121,Tryz.ntmps121
 go_wp2
 go_loop [0] (fun x => ∃ k:Nat,k ≤ zs.length ∧ x = .slice a k cap ∧ z24 zs k = z24 zs zs.length) (fun x => z15 x)
 case atStart => exact ⟨zs.length,Nat.le_refl _,rfl,rfl⟩
 case round =>
  obtain ⟨k,hk,rfl,ht⟩:=hrel
  cases k with
  | zero =>
   have HT:=hid ht
   clear ht
   go_wp2
   all_goals
    go_ret
    refine ⟨_,rfl,?_,rfl⟩
    have h1:=H.out.take (Nat.zero_le _)
    rw [← z4w z01 zs H.out.lt,← List.take_length (l:=zs),← z4a zs _ (Nat.le_refl _),← HT.out]
    exact h1
  | succ k =>
   obtain ⟨z,hz⟩:=z00 (show k < zs.length by omega)
   obtain ⟨b,off,cap',hv,hcap,hmax,hzb,hcell⟩:=H.out.at hz
   obtain ⟨rfl,-,rfl⟩:a = some ⟨b,off,none⟩ ∧ True ∧ cap = cap':=by simpa using hv
   have HT:=hid ht
   have HZ:=hid hz
   clear ht hz hv
   by_cases h0:z = 0
   ·have hb:((z:Int) == 0) = true:=by simpa using h0
    have H0:=hid h0
    clear h0
    go_wp2
    go_round
    case rel => exact ⟨k,by omega,rfl,by rw [← HT.out,z24,HZ.out,H0.out,if_pos rfl]⟩
    case measure => simp only [z15]; omega
   ·have hb:((z:Int) == 0) = false:=by simpa using h0
    have H0:=hid h0
    clear h0
    go_wp2
    all_goals
     go_ret
     refine ⟨_,rfl,?_,rfl⟩
     have h1:=H.out.take hk
     have h2:z24 zs (k + 1) = k + 1:=by rw [z24,HZ.out,if_neg (by simpa using H0.out)]
     rw [← z4w z01 zs H.out.lt,← List.take_length (l:=zs),← z4a zs _ (Nat.le_refl _),← HT.out,h2]
     exact h1
theorem z22 {S:Nat → Prop} (v:Value) (zs:List Nat) (w:World) (h:U32s S w v zs) (hS:∀ k,S k → k < w.heap.size) (hr:zs.length ≤ 50000000000000) :
  Calls Tryz.prog 127 #[v] w fun e w' => ∃ v',e = .returned v' ∧ U32s (New w w') w' v' (rep B32 (val B32 zs)) ∧ Ext w w':=by
 have hle:(rep B32 (val B32 zs)).length ≤ zs.length:=z0d z01 _ _ (z13 zs h.lt)
 have H:=hid h
 obtain ⟨a,cap,rfl⟩:=h.form
 clear h
 have hmk:=fun (n:Nat) (hn:n ≤ 50000000000000) (W:World) => run_make_row' (P:=Tryz.prog) 24 148 (.int .u32 0) 4 Tryz.underlying24 Tryz.infoU32 rfl .i64 .i64 n (by omega) (by omega) W
 go_enter Tryz.func127,Tryz.ntmps127
 go_wp2_with fail
 refine (z1p _ zs _ H.out).mono ?_
 rintro e w' ⟨v',rfl,hu,rfl⟩
 generalize hR:rep B32 (val B32 zs) = R at hu hle
 have HR:=hid hR
 have HU:=hid hu
 obtain ⟨a',c',rfl⟩:=hu.form
 have hmk1:=hmk R.length (by omega) w
 have hrl:∀ z ∈ R,z < B32:=by rw [← HR.out]; exact z32 z01 _
 have HL:=hid hrl
 have HA:=hid (Ext.alloc (Ext.refl w) (.cells (madeCells #[.int .u32 0] R.length) 148))
 have HUA:=hid (HU.out.to (Kept.alloc hS (.cells (madeCells #[.int .u32 0] R.length) 148)) (fun _ h => h))
 have hc':=HU.out.len_le
 clear hR hu hmk hrl
 go_wp2_with (refine wpList_copy_splice (by rfl) (.tmp 9) (.tmp 10) 24 24 (by rfl) 148 Tryz.underlying24 (by kernel_rfl) (some ⟨w.heap.size,0,none⟩) a' R.length R.length R.length c' (by rfl) (by rfl) w.heap.size 0 (List.replicate R.length (.int .u32 0)) 148 (by rw [heap_alloc_new,zcc]) (R.map uval) (by simp) (fun hp => ⟨rfl,HUA.out.src hp⟩) (by simp) (by intro v hv; obtain ⟨z,_,rfl⟩:=List.mem_map.1 hv; rfl) w.heap.size w HA.out (Nat.le_refl _) ?_; intro w2 hg hb)
 have HG:=hid hg
 have HB:=hid hb
 clear hg hb
 go_wp2
 go_ret
 refine ⟨_,rfl,?_,HB.out⟩
 have hg:=HG.out.out
 rw [zah _ _ (by simp)] at hg
 rw [HR.out]
 refine (U32s.of_block hg HL.out hc' _ (fun _ => rfl)).to (Kept.refl _ _) (fun k hk => ?_)
 subst hk
 exact ⟨Nat.le_refl _,(Array.getElem?_eq_some_iff.1 hg).1⟩
end
section
open Go.RowKit
theorem zhl {S:Nat → Prop} (va vb:Value) (xs ys:List Nat) (w:World) (ha:U32s S w va xs) (hb:U32s S w vb ys) (hS:∀ k,S k → k < w.heap.size) (hr:xs.length ≤ 50000000000000) (hle:ys.length ≤ xs.length) :
  Calls Tryz.prog 173 #[va,vb] w fun e w' => ∃ v',e = .returned v' ∧ U32s (New w w') w' v' (rep B32 (val B32 xs + val B32 ys)) ∧ Ext w w':=by
 have HA:=hid ha
 have HB:=hid hb
 obtain ⟨aa,ca,rfl⟩:=ha.form
 obtain ⟨ab,cb,rfl⟩:=hb.form
 clear ha hb
 have hmk:=run_make_row' (P:=Tryz.prog) 24 148 (.int .u32 0) 4 Tryz.underlying24 Tryz.infoU32 rfl .i64 .i64 (xs.length + 1) (by omega) (by omega) w
 rw [show ((xs.length + 1:Nat):Int) = (xs.length:Int) + 1 by omega] at hmk
 have hz:w.heap.size < (w.alloc (.cells (madeCells #[.int .u32 0] (xs.length + 1)) 148)).heap.size:=by simp
 have HR:=hid (z9b w (xs.length + 1) 148)
 have HE:=hid (Ext.alloc (Ext.refl w) (.cells (madeCells #[.int .u32 0] (xs.length + 1)) 148))
 go_enter Tryz.func173,Tryz.ntmps173
 go_wp2
 go_loopw [6,21] (fun c i wr => ∃ (k cc:Nat) (o:List Nat),k ≤ xs.length + 1 ∧ i = .int .i64 k ∧ c = .int .u64 cc ∧ cc ≤ 1 ∧ o.length = k ∧ Hid (∀ z ∈ o,z < B32) ∧ wr.rowIs w.heap.size 148 (xs.length + 1) (rowU o) ∧ Ext w wr ∧
  val B32 o + B32 ^ k * cc = val B32 (xs.take k) + val B32 (ys.take k)) (fun _ i _ => xs.length + 1 - (intOf i).toNat)
 case atStart => exact ⟨0,0,[],Nat.zero_le _,rfl,rfl,by omega,rfl,hid (by simp),HR.out,HE.out,by simp [val]⟩
 case round =>
  obtain ⟨k,cc,o,hk,rfl,rfl,hcc,hol,HO,hrow,hx,hv⟩:=hrel
  by_cases hlt:k < xs.length
  ·obtain ⟨x,hx1⟩:=z00 hlt
   obtain ⟨b1,o1,rfl,-,hn1,hm1,-,hxb,hc1⟩:=(HA.out.to (Kept.ext hx hS) (fun _ h => h)).cellAt hx1
   have hcs:=hrow.cell (i:=k) (by omega)
   have hfs:=hrow.frozen k
   have HX1:=hid hx1
   have HROW:=hid hrow
   have HX:=hid hx
   have HV:=hid hv
   have HOL:=hid hol
   clear hx1 hrow hx hv hol
   by_cases hlt2:k < ys.length
   ·obtain ⟨y,hy1⟩:=z00 hlt2
    obtain ⟨b2,o2,rfl,-,hn2,hm2,-,hyb,hc2⟩:=(HB.out.to (Kept.ext HX.out hS) (fun _ h => h)).cellAt hy1
    have HY1:=hid hy1
    clear hy1
    go_wp2
    go_roundw
    case rel =>
     refine ⟨k + 1,(cc + (x + y)) / 4294967296,o ++ [(cc + (x + y)) % 4294967296],by omega,by go_num,congrArg (Value.int .u64) (by omega),by omega,by simp [HOL.out],?_,?_,HX.out.setCell (p:=⟨w.heap.size,k,none⟩) (Nat.le_refl _) _,?_⟩
     ·refine hid (fun z hz => ?_)
      rcases List.mem_append.1 hz with h | h
      ·exact HO.out z h
      ·rw [List.mem_singleton.1 h]
       exact Nat.mod_lt _ (by decide)
     ·have h1:=z26 HROW.out ((cc + (x + y)) % 4294967296)
      rw [HOL.out] at h1
      refine cast (congrArg (fun e => World.rowIs (World.setCell wr ⟨w.heap.size,k,none⟩ (Value.int .u32 e)) _ _ _ _) ?_) h1
      omega
     ·exact z3k HOL.out HV.out ((x + y)) (by rw [z0k HX1.out,z0k HY1.out])
    case measure => simp only [intOf]; omega
   ·go_wp2
    go_roundw
    case rel =>
     refine ⟨k + 1,(cc + (x + 0)) / 4294967296,o ++ [(cc + (x + 0)) % 4294967296],by omega,by go_num,congrArg (Value.int .u64) (by omega),by omega,by simp [HOL.out],?_,?_,HX.out.setCell (p:=⟨w.heap.size,k,none⟩) (Nat.le_refl _) _,?_⟩
     ·refine hid (fun z hz => ?_)
      rcases List.mem_append.1 hz with h | h
      ·exact HO.out z h
      ·rw [List.mem_singleton.1 h]
       exact Nat.mod_lt _ (by decide)
     ·have h1:=z26 HROW.out ((cc + (x + 0)) % 4294967296)
      rw [HOL.out] at h1
      refine cast (congrArg (fun e => World.rowIs (World.setCell wr ⟨w.heap.size,k,none⟩ (Value.int .u32 e)) _ _ _ _) ?_) h1
      omega
     ·exact z3k HOL.out HV.out ((x + 0)) (by rw [z0k HX1.out,z2a (l:=ys) (by omega)])
    case measure => simp only [intOf]; omega
  ·by_cases hlt3:k = xs.length
   ·have hcs:=hrow.cell (i:=k) (by omega)
    have hfs:=hrow.frozen k
    have HROW:=hid hrow
    have HX:=hid hx
    have HV:=hid hv
    have HOL:=hid hol
    have hge:ys.length ≤ k:=by omega
    have HK:=hid hlt3
    have hk2:k < xs.length + 1:=by omega
    have hk3:xs.length ≤ k:=by omega
    clear hrow hx hv hol hlt3
    go_wp2
    go_roundw
    case rel =>
     refine ⟨k + 1,(cc + (0 + 0)) / 4294967296,o ++ [(cc + (0 + 0)) % 4294967296],by omega,by go_num,congrArg (Value.int .u64) (by omega),by omega,by simp [HOL.out],?_,?_,HX.out.setCell (p:=⟨w.heap.size,k,none⟩) (Nat.le_refl _) _,?_⟩
     ·refine hid (fun z hz => ?_)
      rcases List.mem_append.1 hz with h | h
      ·exact HO.out z h
      ·rw [List.mem_singleton.1 h]
       exact Nat.mod_lt _ (by decide)
     ·have h1:=z26 HROW.out ((cc + (0 + 0)) % 4294967296)
      rw [HOL.out] at h1
      refine cast (congrArg (fun e => World.rowIs (World.setCell wr ⟨w.heap.size,k,none⟩ (Value.int .u32 e)) _ _ _ _) ?_) h1
      omega
     ·exact z3k HOL.out HV.out ((0 + 0)) (by rw [z2a (l:=xs) (by omega),z2a (l:=ys) (by omega)])
    case measure => simp only [intOf]; omega
   ·obtain rfl:k = xs.length + 1:=by omega
    have HX:=hid hx
    have HROW:=hid hrow
    have HV:=hid (zjk z01 HA.out.lt HB.out.lt hle hv)
    have HOL:=hid hol
    clear hx hrow hv hol
    have hu:U32s (fun k => k = w.heap.size) wr (.slice (some ⟨w.heap.size,0,none⟩) (xs.length + 1) (xs.length + 1)) o:=by
     have h1:=U32s.of_row HROW.out (by have:=HOL.out; omega) HO.out (by omega)
     rwa [HOL.out] at h1
    have HU:=hid hu
    clear hu
    go_wp2_with fail
    refine (z1p _ o _ HU.out).mono ?_
    rintro e w' ⟨v',rfl,hu,rfl⟩
    have H:=hid hu
    clear hu
    go_wp2
    all_goals
     go_ret
     refine ⟨_,rfl,?_,HX.out⟩
     rw [← HV.out]
     refine H.out.to (Kept.refl _ _) (fun k hk => ?_)
     subst hk
     exact ⟨Nat.le_refl _,HROW.out.lt⟩
theorem zhm {S:Nat → Prop} (va vb:Value) (xs ys:List Nat) (w:World) (ha:U32s S w va xs) (hb:U32s S w vb ys) (hS:∀ k,S k → k < w.heap.size) (hr:ys.length ≤ 50000000000000) (hle:xs.length < ys.length) :
  Calls Tryz.prog 173 #[va,vb] w fun e w' => ∃ v',e = .returned v' ∧ U32s (New w w') w' v' (rep B32 (val B32 xs + val B32 ys)) ∧ Ext w w':=by
 have HB:=hid hb
 have HA:=hid ha
 obtain ⟨aa,ca,rfl⟩:=ha.form
 obtain ⟨ab,cb,rfl⟩:=hb.form
 clear ha hb
 have hmk:=run_make_row' (P:=Tryz.prog) 24 148 (.int .u32 0) 4 Tryz.underlying24 Tryz.infoU32 rfl .i64 .i64 (ys.length + 1) (by omega) (by omega) w
 rw [show ((ys.length + 1:Nat):Int) = (ys.length:Int) + 1 by omega] at hmk
 have hz:w.heap.size < (w.alloc (.cells (madeCells #[.int .u32 0] (ys.length + 1)) 148)).heap.size:=by simp
 have HR:=hid (z9b w (ys.length + 1) 148)
 have HE:=hid (Ext.alloc (Ext.refl w) (.cells (madeCells #[.int .u32 0] (ys.length + 1)) 148))
 go_enter Tryz.func173,Tryz.ntmps173
 go_wp2
 go_loopw [6,21] (fun c i wr => ∃ (k cc:Nat) (o:List Nat),k ≤ ys.length + 1 ∧ i = .int .i64 k ∧ c = .int .u64 cc ∧ cc ≤ 1 ∧ o.length = k ∧ Hid (∀ z ∈ o,z < B32) ∧ wr.rowIs w.heap.size 148 (ys.length + 1) (rowU o) ∧ Ext w wr ∧
  val B32 o + B32 ^ k * cc = val B32 (ys.take k) + val B32 (xs.take k)) (fun _ i _ => ys.length + 1 - (intOf i).toNat)
 case atStart => exact ⟨0,0,[],Nat.zero_le _,rfl,rfl,by omega,rfl,hid (by simp),HR.out,HE.out,by simp [val]⟩
 case round =>
  obtain ⟨k,cc,o,hk,rfl,rfl,hcc,hol,HO,hrow,hx,hv⟩:=hrel
  by_cases hlt:k < ys.length
  ·obtain ⟨x,hx1⟩:=z00 hlt
   obtain ⟨b1,o1,rfl,-,hn1,hm1,-,hxb,hc1⟩:=(HB.out.to (Kept.ext hx hS) (fun _ h => h)).cellAt hx1
   have hcs:=hrow.cell (i:=k) (by omega)
   have hfs:=hrow.frozen k
   have HX1:=hid hx1
   have HROW:=hid hrow
   have HX:=hid hx
   have HV:=hid hv
   have HOL:=hid hol
   clear hx1 hrow hx hv hol
   by_cases hlt2:k < xs.length
   ·obtain ⟨y,hy1⟩:=z00 hlt2
    obtain ⟨b2,o2,rfl,-,hn2,hm2,-,hyb,hc2⟩:=(HA.out.to (Kept.ext HX.out hS) (fun _ h => h)).cellAt hy1
    have HY1:=hid hy1
    clear hy1
    go_wp2
    go_roundw
    case rel =>
     refine ⟨k + 1,(cc + (x + y)) / 4294967296,o ++ [(cc + (x + y)) % 4294967296],by omega,by go_num,congrArg (Value.int .u64) (by omega),by omega,by simp [HOL.out],?_,?_,HX.out.setCell (p:=⟨w.heap.size,k,none⟩) (Nat.le_refl _) _,?_⟩
     ·refine hid (fun z hz => ?_)
      rcases List.mem_append.1 hz with h | h
      ·exact HO.out z h
      ·rw [List.mem_singleton.1 h]
       exact Nat.mod_lt _ (by decide)
     ·have h1:=z26 HROW.out ((cc + (x + y)) % 4294967296)
      rw [HOL.out] at h1
      refine cast (congrArg (fun e => World.rowIs (World.setCell wr ⟨w.heap.size,k,none⟩ (Value.int .u32 e)) _ _ _ _) ?_) h1
      omega
     ·exact z3k HOL.out HV.out ((x + y)) (by rw [z0k HX1.out,z0k HY1.out])
    case measure => simp only [intOf]; omega
   ·go_wp2
    go_roundw
    case rel =>
     refine ⟨k + 1,(cc + (x + 0)) / 4294967296,o ++ [(cc + (x + 0)) % 4294967296],by omega,by go_num,congrArg (Value.int .u64) (by omega),by omega,by simp [HOL.out],?_,?_,HX.out.setCell (p:=⟨w.heap.size,k,none⟩) (Nat.le_refl _) _,?_⟩
     ·refine hid (fun z hz => ?_)
      rcases List.mem_append.1 hz with h | h
      ·exact HO.out z h
      ·rw [List.mem_singleton.1 h]
       exact Nat.mod_lt _ (by decide)
     ·have h1:=z26 HROW.out ((cc + (x + 0)) % 4294967296)
      rw [HOL.out] at h1
      refine cast (congrArg (fun e => World.rowIs (World.setCell wr ⟨w.heap.size,k,none⟩ (Value.int .u32 e)) _ _ _ _) ?_) h1
      omega
     ·exact z3k HOL.out HV.out ((x + 0)) (by rw [z0k HX1.out,z2a (l:=xs) (by omega)])
    case measure => simp only [intOf]; omega
  ·by_cases hlt3:k = ys.length
   ·have hcs:=hrow.cell (i:=k) (by omega)
    have hfs:=hrow.frozen k
    have HROW:=hid hrow
    have HX:=hid hx
    have HV:=hid hv
    have HOL:=hid hol
    have hge:xs.length ≤ k:=by omega
    have HK:=hid hlt3
    have hk2:k < ys.length + 1:=by omega
    have hk3:ys.length ≤ k:=by omega
    clear hrow hx hv hol hlt3
    go_wp2
    go_roundw
    case rel =>
     refine ⟨k + 1,(cc + (0 + 0)) / 4294967296,o ++ [(cc + (0 + 0)) % 4294967296],by omega,by go_num,congrArg (Value.int .u64) (by omega),by omega,by simp [HOL.out],?_,?_,HX.out.setCell (p:=⟨w.heap.size,k,none⟩) (Nat.le_refl _) _,?_⟩
     ·refine hid (fun z hz => ?_)
      rcases List.mem_append.1 hz with h | h
      ·exact HO.out z h
      ·rw [List.mem_singleton.1 h]
       exact Nat.mod_lt _ (by decide)
     ·have h1:=z26 HROW.out ((cc + (0 + 0)) % 4294967296)
      rw [HOL.out] at h1
      refine cast (congrArg (fun e => World.rowIs (World.setCell wr ⟨w.heap.size,k,none⟩ (Value.int .u32 e)) _ _ _ _) ?_) h1
      omega
     ·exact z3k HOL.out HV.out ((0 + 0)) (by rw [z2a (l:=ys) (by omega),z2a (l:=xs) (by omega)])
    case measure => simp only [intOf]; omega
   ·obtain rfl:k = ys.length + 1:=by omega
    have HX:=hid hx
    have HROW:=hid hrow
    have HV:=hid (zjk z01 HB.out.lt HA.out.lt (by omega) hv)
    have HOL:=hid hol
    clear hx hrow hv hol
    have hu:U32s (fun k => k = w.heap.size) wr (.slice (some ⟨w.heap.size,0,none⟩) (ys.length + 1) (ys.length + 1)) o:=by
     have h1:=U32s.of_row HROW.out (by have:=HOL.out; omega) HO.out (by omega)
     rwa [HOL.out] at h1
    have HU:=hid hu
    clear hu
    go_wp2_with fail
    refine (z1p _ o _ HU.out).mono ?_
    rintro e w' ⟨v',rfl,hu,rfl⟩
    have H:=hid hu
    clear hu
    go_wp2
    all_goals
     go_ret
     refine ⟨_,rfl,?_,HX.out⟩
     rw [Nat.add_comm (val B32 xs),← HV.out]
     refine H.out.to (Kept.refl _ _) (fun k hk => ?_)
     subst hk
     exact ⟨Nat.le_refl _,HROW.out.lt⟩
theorem zr0 {S:Nat → Prop} (va vb:Value) (xs ys:List Nat) (w:World) (ha:U32s S w va xs) (hb:U32s S w vb ys) (hS:∀ k,S k → k < w.heap.size) (hr:xs.length ≤ 50000000000000) (hr2:ys.length ≤ 50000000000000) :
  Calls Tryz.prog 173 #[va,vb] w fun e w' => ∃ v',e = .returned v' ∧ U32s (New w w') w' v' (rep B32 (val B32 xs + val B32 ys)) ∧ Ext w w':=by
 by_cases h:xs.length < ys.length
 ·exact zhm va vb xs ys w ha hb hS hr2 h
 ·exact zhl va vb xs ys w ha hb hS hr (by omega)
end
section
open Go.RowKit
def cmpN (a b:Nat):Int:=cmpI (a:Int) (b:Int)
theorem znm {n m:Nat} (h:(rep B32 n).length < (rep B32 m).length):cmpN n m = -1:=by
 have:=z69 z01 h
 unfold cmpN
 rw [z2r]
 omega
theorem zjr {n m:Nat} (h:(rep B32 m).length < (rep B32 n).length):cmpN n m = 1:=by
 have:=z69 z01 h
 unfold cmpN
 rw [z41]
 omega
theorem zg5 {n m k x y:Nat} (hlen:(rep B32 n).length = (rep B32 m).length) (hx:(rep B32 n)[k]? = some x) (hy:(rep B32 m)[k]? = some y) (ht:val B32 ((rep B32 n).drop (k + 1)) = val B32 ((rep B32 m).drop (k + 1))) (h:x < y):cmpN n m = -1:=by
 have h1:=zag (B:=B32) (l:=rep B32 n) (m:=rep B32 m) (k:=k) (by decide) (z32 z01 n) (by rw [z0k hx,z0k hy]; exact h) (z03 hx) (z03 hy) ht hlen
 rw [z0c z01,z0c z01] at h1
 unfold cmpN
 rw [z2r]
 omega
theorem zjs {n m k x y:Nat} (hlen:(rep B32 n).length = (rep B32 m).length) (hx:(rep B32 n)[k]? = some x) (hy:(rep B32 m)[k]? = some y) (ht:val B32 ((rep B32 n).drop (k + 1)) = val B32 ((rep B32 m).drop (k + 1))) (h:y < x):cmpN n m = 1:=by
 have:=zg5 hlen.symm hy hx ht.symm h
 unfold cmpN at *
 rw [zb6,this]
 rfl
theorem z9c {S:Nat → Prop} (va vb:Value) (xs ys:List Nat) (w:World) (ha:U32s S w va xs) (hb:U32s S w vb ys) (hS:∀ k,S k → k < w.heap.size) :
  Calls Tryz.prog 139 #[va,vb] w fun e w' => e = .returned (.int .i64 (cmpN (val B32 xs) (val B32 ys))) ∧ Ext w w':=by
 have HA:=hid ha
 have HB:=hid hb
 obtain ⟨aa,ca,rfl⟩:=ha.form
 obtain ⟨ab,cb,rfl⟩:=hb.form
 clear ha hb
 go_enter Tryz.func139,Tryz.ntmps139
 go_wp2_with fail
 refine (z1p _ xs _ HA.out).mono ?_
 rintro e w' ⟨va,rfl,hu,rfl⟩
 have HU:=hid hu
 obtain ⟨a1,c1,rfl⟩:=hu.form
 clear hu
 go_wp2_with fail
 refine (z1p _ ys _ HB.out).mono ?_
 rintro e w' ⟨vb,rfl,hv,rfl⟩
 have HV:=hid hv
 obtain ⟨a2,c2,rfl⟩:=hv.form
 clear hv
 generalize hn:val B32 xs = n at HU
 generalize hm:val B32 ys = m at HV
 have HN:=hid hn
 have HM:=hid hm
 clear hn hm
 have hl1:=HU.out.len_le
 have hl2:=HV.out.len_le
 rcases (show (rep B32 n).length < (rep B32 m).length ∨ (rep B32 m).length < (rep B32 n).length ∨ (rep B32 n).length = (rep B32 m).length by omega) with hlt | hlt | heq
 ·have HC:=hid (znm hlt)
  go_wp2
  all_goals
   go_ret
   exact ⟨by rw [HN.out,HM.out,HC.out]; rfl,Ext.refl _⟩
 ·have HC:=hid (zjr hlt)
  go_wp2
  all_goals
   go_ret
   exact ⟨by rw [HN.out,HM.out,HC.out]; rfl,Ext.refl _⟩
 ·have HE:=hid heq
  obtain ⟨L,hL⟩:∃ L,L = (rep B32 n).length:=⟨_,rfl⟩
  have HL:=hid hL
  rw [← heq,← hL] at HV hl2 ⊢
  rw [← hL] at HU hl1
  clear heq hL
  go_wp2
  go_loopw [25] (fun i wr => ∃ k:Nat,k ≤ L ∧ i = .int .i64 k ∧ Ext w wr ∧ val B32 ((rep B32 n).drop (L - k)) = val B32 ((rep B32 m).drop (L - k))) (fun i _ => L - (intOf i).toNat)
  case atStart => exact ⟨0,Nat.zero_le _,rfl,Ext.refl _,by rw [List.drop_eq_nil_of_le (by have:=HL.out; omega),List.drop_eq_nil_of_le (by have:=HL.out; have:=HE.out; omega)]⟩
  case round =>
   obtain ⟨k,hk,rfl,hx,ht⟩:=hrel
   by_cases hlt:k < L
   ·obtain ⟨q,rfl⟩:∃ q,L = q + 1 + k:=⟨L - 1 - k,by omega⟩
    rw [show q + 1 + k - k = q + 1 by omega] at ht
    obtain ⟨x,hx1⟩:=z00 (show q < (rep B32 n).length by have:=HL.out; omega)
    obtain ⟨y,hy1⟩:=z00 (show q < (rep B32 m).length by have:=HL.out; have:=HE.out; omega)
    obtain ⟨b1,o1,rfl,-,hn1,hm1,-,hxb,hc1⟩:=(HU.out.to (Kept.ext hx hS) (fun _ h => h)).cellAt hx1
    obtain ⟨b2,o2,rfl,-,hn2,hm2,-,hyb,hc2⟩:=(HV.out.to (Kept.ext hx hS) (fun _ h => h)).cellAt hy1
    have HX:=hid hx
    have HT:=hid ht
    have HX1:=hid hx1
    have HY1:=hid hy1
    clear hx ht hx1 hy1
    have hq:((q:Nat):Int) + 1 + (k:Int) - 1 - (k:Int) = (q:Int):=by omega
    rcases (show x < y ∨ y < x ∨ x = y by omega) with hlt | hlt | heq
    ·have HC:=hid (zg5 HE.out HX1.out HY1.out HT.out hlt)
     go_wp2
     go_quiet (fail)
     go_wp2
     all_goals
      go_ret
      exact ⟨by rw [HN.out,HM.out,HC.out]; rfl,HX.out.drewN _⟩
    ·have HC:=hid (zjs HE.out HX1.out HY1.out HT.out hlt)
     go_wp2
     go_quiet (fail)
     go_wp2
     go_quiet (fail)
     go_wp2
     all_goals
      go_ret
      exact ⟨by rw [HN.out,HM.out,HC.out]; rfl,(HX.out.drewN _).drewN _⟩
    ·subst heq
     go_wp2
     go_quiet (fail)
     go_wp2
     go_quiet (fail)
     go_wp2
     go_roundw
     case rel =>
      refine ⟨k + 1,by omega,by go_num,HX.out.drewN _,?_⟩
      rw [show q + 1 + k - (k + 1) = q by omega,z56 HX1.out,z56 HY1.out,HT.out]
     case measure => simp only [intOf]; omega
   ·obtain rfl:k = L:=by omega
    have HX:=hid hx
    have HC:Hid (cmpN n m = 0):=by
     have e:n = m:=by
      rw [Nat.sub_self] at ht
      simpa [z0c z01] using ht
     refine hid ?_
     rw [e]
     exact zca _
    clear hx ht
    go_wp2
    all_goals
     go_ret
     exact ⟨by rw [HN.out,HM.out,HC.out]; rfl,HX.out⟩
end
section
open Go.RowKit
theorem zhn {S:Nat → Prop} (va vb:Value) (xs ys:List Nat) (w:World) (ha:U32s S w va xs) (hb:U32s S w vb ys) (hS:∀ k,S k → k < w.heap.size) (hlt:val B32 xs < val B32 ys) :
  Calls Tryz.prog 174 #[va,vb] w fun e w' => e = .returned (.tuple #[.slice none 0 0,.int .i64 2]) ∧ Ext w w':=by
 have HA:=hid ha
 have HB:=hid hb
 obtain ⟨aa,ca,rfl⟩:=ha.form
 obtain ⟨ab,cb,rfl⟩:=hb.form
 have hc:cmpN (val B32 xs) (val B32 ys) = -1:=by unfold cmpN; rw [z2r]; omega
 have hm:=z9c _ _ xs ys w HA.out HB.out hS
 rw [hc] at hm
 have HM:=hid hm
 clear ha hb hc hm hlt
 go_enter Tryz.func174,Tryz.ntmps174
 go_wp2_with fail
 refine HM.out.mono ?_
 rintro e w1 ⟨rfl,hx1⟩
 have HX:=hid hx1
 clear hx1
 go_wp2
 go_ret2
 exact ⟨rfl,HX.out⟩
theorem z9d {S:Nat → Prop} (va vb:Value) (xs ys:List Nat) (w:World) (ha:U32s S w va xs) (hb:U32s S w vb ys) (hS:∀ k,S k → k < w.heap.size) (hr:xs.length ≤ 50000000000000) (hge:val B32 ys ≤ val B32 xs) :
  Calls Tryz.prog 174 #[va,vb] w fun e w' => ∃ v',e = .returned (.tuple #[v',.int .i64 0]) ∧ U32s (New w w') w' v' (rep B32 (val B32 xs - val B32 ys)) ∧ Ext w w':=by
 have hxl:(rep B32 (val B32 xs)).length ≤ xs.length:=z0d z01 _ _ (z13 xs ha.lt)
 have HA:=hid ha
 have HB:=hid hb
 obtain ⟨aa,ca,rfl⟩:=ha.form
 obtain ⟨ab,cb,rfl⟩:=hb.form
 obtain ⟨cc,hc,hcc⟩:∃ cc:Int,cmpN (val B32 xs) (val B32 ys) = cc ∧ 0 ≤ cc ∧ cc ≤ 1:=⟨_,rfl,by unfold cmpN cmpI; split <;> (try split) <;> omega⟩
 have hm:=z9c _ _ xs ys w HA.out HB.out hS
 rw [hc] at hm
 have HM:=hid hm
 have HGE:=hid hge
 clear ha hb hc hm hge
 go_enter Tryz.func174,Tryz.ntmps174
 go_wp2_with fail
 refine HM.out.mono ?_
 rintro e w1 ⟨rfl,hx1⟩
 have hS1:∀ k,S k → k < w1.heap.size:=fun k hk => Nat.lt_of_lt_of_le (hS k hk) hx1.size
 have HX:=hid hx1
 go_wp2_with fail
 refine (z1p (S:=S) _ xs w1 (HA.out.to (Kept.ext hx1 hS) (fun _ h => h))).mono ?_
 rintro e w' ⟨va,rfl,hu,rfl⟩
 have HU:=hid hu
 obtain ⟨a1,c1,rfl⟩:=hu.form
 clear hu
 go_wp2_with fail
 refine (z1p (S:=S) _ ys w1 (HB.out.to (Kept.ext hx1 hS) (fun _ h => h))).mono ?_
 rintro e w' ⟨vb,rfl,hv,rfl⟩
 have HV:=hid hv
 obtain ⟨a2,c2,rfl⟩:=hv.form
 clear hv hx1
 generalize hn:val B32 xs = n at HU HGE hxl
 generalize hm:val B32 ys = m at HV HGE
 have HN:=hid hn
 have HM:=hid hm
 clear hn hm
 have hmk:=run_make_row' (P:=Tryz.prog) 24 148 (.int .u32 0) 4 Tryz.underlying24 Tryz.infoU32 rfl .i64 .i64 (rep B32 n).length (by omega) (by omega) w1
 have hz:w1.heap.size < (w1.alloc (.cells (madeCells #[.int .u32 0] (rep B32 n).length) 148)).heap.size:=by simp
 have HR:=hid (z9b w1 (rep B32 n).length 148)
 have HE:=hid (Ext.alloc (Ext.refl w1) (.cells (madeCells #[.int .u32 0] (rep B32 n).length) 148))
 go_wp2
 go_loopw [7,23] (fun c i wr => ∃ (k cc:Nat) (o:List Nat),k ≤ (rep B32 n).length ∧ i = .int .i64 k ∧ c = .int .u64 cc ∧ cc ≤ 1 ∧ o.length = k ∧ Hid (∀ z ∈ o,z < B32) ∧ wr.rowIs w1.heap.size 148 (rep B32 n).length (rowU o) ∧ Ext w1 wr ∧
  val B32 o + val B32 ((rep B32 m).take k) = val B32 ((rep B32 n).take k) + B32 ^ k * cc) (fun _ i _ => (rep B32 n).length - (intOf i).toNat)
 case atStart => exact ⟨0,0,[],Nat.zero_le _,rfl,rfl,by omega,rfl,hid (by simp),HR.out,HE.out,by simp [val]⟩
 case round =>
  obtain ⟨k,cc,o,hk,rfl,rfl,hcc,hol,HO,hrow,hx,hv⟩:=hrel
  by_cases hlt:k < (rep B32 n).length
  ·obtain ⟨x,hx1⟩:=z00 hlt
   obtain ⟨b1,o1,rfl,-,hn1,hm1,-,hxb,hc1⟩:=(HU.out.to (Kept.ext hx hS1) (fun _ h => h)).cellAt hx1
   have hcs:=hrow.cell (i:=k) (by omega)
   have hfs:=hrow.frozen k
   have HX1:=hid hx1
   have HROW:=hid hrow
   have HXR:=hid hx
   have HV1:=hid hv
   have HOL:=hid hol
   clear hx1 hrow hx hv hol
   by_cases hlt2:k < (rep B32 m).length
   ·obtain ⟨y,hy1⟩:=z00 hlt2
    obtain ⟨b2,o2,rfl,-,hn2,hm2,-,hyb,hc2⟩:=(HV.out.to (Kept.ext HXR.out hS1) (fun _ h => h)).cellAt hy1
    have HY1:=hid hy1
    clear hy1
    by_cases hs:y + cc ≤ x
    ·go_wp2
     go_roundw
     case rel =>
      skip
      refine ⟨k + 1,0,o ++ [x - y - cc],by omega,by go_num,congrArg (Value.int .u64) (by omega),by omega,by simp [HOL.out],?_,?_,HXR.out.setCell (p:=⟨w1.heap.size,k,none⟩) (Nat.le_refl _) _,?_⟩
      ·refine hid (fun z hz => ?_)
       rcases List.mem_append.1 hz with h | h
       ·exact HO.out z h
       ·rw [List.mem_singleton.1 h]
        show _ < 4294967296
        omega
      ·have h1:=z26 HROW.out (x - y - cc)
       rw [HOL.out] at h1
       refine cast (congrArg (fun e => World.rowIs (World.setCell wr ⟨w1.heap.size,k,none⟩ (Value.int .u32 e)) _ _ _ _) ?_) h1
       omega
      ·refine z4j HOL.out HV1.out _ _ ?_
       rw [z0k HX1.out,z0k HY1.out]
       show _ + 4294967296 * _ = _
       omega
     case measure => simp only [intOf]; omega
    ·go_wp2
     go_roundw
     case rel =>
      rw [show IntKind.u64.wrap (IntKind.u64.wrap ((x:Int) - cc) - y) = 18446744073709551616 + (x:Int) - cc - y by rw [IntKind.wrap_u64,IntKind.wrap_u64]; omega]
      refine ⟨k + 1,1,o ++ [x + 4294967296 - y - cc],by omega,by go_num,congrArg (Value.int .u64) (by omega),by omega,by simp [HOL.out],?_,?_,HXR.out.setCell (p:=⟨w1.heap.size,k,none⟩) (Nat.le_refl _) _,?_⟩
      ·refine hid (fun z hz => ?_)
       rcases List.mem_append.1 hz with h | h
       ·exact HO.out z h
       ·rw [List.mem_singleton.1 h]
        show _ < 4294967296
        omega
      ·have h1:=z26 HROW.out (x + 4294967296 - y - cc)
       rw [HOL.out] at h1
       refine cast (congrArg (fun e => World.rowIs (World.setCell wr ⟨w1.heap.size,k,none⟩ (Value.int .u32 e)) _ _ _ _) ?_) h1
       omega
      ·refine z4j HOL.out HV1.out _ _ ?_
       rw [z0k HX1.out,z0k HY1.out]
       show _ + 4294967296 * _ = _
       omega
     case measure => simp only [intOf]; omega
   ·by_cases hs:cc ≤ x
    ·go_wp2
     go_roundw
     case rel =>
      skip
      refine ⟨k + 1,0,o ++ [x - 0 - cc],by omega,by go_num,congrArg (Value.int .u64) (by omega),by omega,by simp [HOL.out],?_,?_,HXR.out.setCell (p:=⟨w1.heap.size,k,none⟩) (Nat.le_refl _) _,?_⟩
      ·refine hid (fun z hz => ?_)
       rcases List.mem_append.1 hz with h | h
       ·exact HO.out z h
       ·rw [List.mem_singleton.1 h]
        show _ < 4294967296
        omega
      ·have h1:=z26 HROW.out (x - 0 - cc)
       rw [HOL.out] at h1
       refine cast (congrArg (fun e => World.rowIs (World.setCell wr ⟨w1.heap.size,k,none⟩ (Value.int .u32 e)) _ _ _ _) ?_) h1
       omega
      ·refine z4j HOL.out HV1.out _ _ ?_
       rw [z0k HX1.out,z2a (l:=rep B32 m) (by omega)]
       show _ + 4294967296 * _ = _
       omega
     case measure => simp only [intOf]; omega
    ·go_wp2
     go_roundw
     case rel =>
      rw [show IntKind.u64.wrap ((x:Int) - cc) = 18446744073709551616 + (x:Int) - cc by rw [IntKind.wrap_u64]; omega]
      refine ⟨k + 1,1,o ++ [x + 4294967296 - 0 - cc],by omega,by go_num,congrArg (Value.int .u64) (by omega),by omega,by simp [HOL.out],?_,?_,HXR.out.setCell (p:=⟨w1.heap.size,k,none⟩) (Nat.le_refl _) _,?_⟩
      ·refine hid (fun z hz => ?_)
       rcases List.mem_append.1 hz with h | h
       ·exact HO.out z h
       ·rw [List.mem_singleton.1 h]
        show _ < 4294967296
        omega
      ·have h1:=z26 HROW.out (x + 4294967296 - 0 - cc)
       rw [HOL.out] at h1
       refine cast (congrArg (fun e => World.rowIs (World.setCell wr ⟨w1.heap.size,k,none⟩ (Value.int .u32 e)) _ _ _ _) ?_) h1
       omega
      ·refine z4j HOL.out HV1.out _ _ ?_
       rw [z0k HX1.out,z2a (l:=rep B32 m) (by omega)]
       show _ + 4294967296 * _ = _
       omega
     case measure => simp only [intOf]; omega
  ·obtain rfl:k = (rep B32 n).length:=by omega
   have HXR:=hid hx
   have HROW:=hid hrow
   have hml:(rep B32 m).length ≤ (rep B32 n).length:=z0d z01 _ _ (Nat.lt_of_le_of_lt HGE.out (z0s z01 n))
   rw [List.take_of_length_le hml,List.take_length,z0c z01,z0c z01] at hv
   have HV1:=hid (zjl HO.out hol HGE.out hv)
   have hu:U32s (fun k => k = w1.heap.size) wr (.slice (some ⟨w1.heap.size,0,none⟩) (rep B32 n).length (rep B32 n).length) o:=by
    have h1:=U32s.of_row HROW.out (by omega) HO.out (by omega)
    rwa [hol] at h1
   have HU1:=hid hu
   clear hx hrow hv hol hu
   go_wp2_with fail
   refine (z1p _ o _ HU1.out).mono ?_
   rintro e w' ⟨v',rfl,hu,rfl⟩
   have H:=hid hu
   clear hu
   go_wp2
   all_goals
    go_ret2
    refine ⟨_,rfl,?_,HX.out.trans HXR.out⟩
    rw [HN.out,HM.out,← HV1.out]
    refine H.out.to (Kept.refl _ _) (fun k hk => ?_)
    subst hk
    exact ⟨HX.out.size,HROW.out.lt⟩
end
section
open Go.RowKit
def IntV (S:Nat → Prop) (w:World) (v:Value) (r:RInt):Prop:=∃ vm,v = .agg #[.bool r.neg,vm] ∧ U32s S w vm r.mag
theorem IntV.to {S S':Nat → Prop} {w w':World} {v:Value} {r:RInt} (h:IntV S w v r) (hk:Kept S w w') (hS:∀ k,S k → S' k):IntV S' w' v r:=by
 obtain ⟨vm,h1,h2⟩:=h
 exact ⟨vm,h1,h2.to hk hS⟩
def sg (b:Bool) (n:Nat):Int:=if b then -(n:Int) else (n:Int)
theorem zq9 (b:Bool) (n:Nat):ofI (sg b n) = ⟨b && decide (0 < (rep B32 n).length),rep B32 n⟩:=by
 have h0:0 < (rep B32 n).length ↔ n ≠ 0:=by
  rw [List.length_pos_iff,Ne,z1u z01]
 unfold ofI sg
 cases b with
 | false => simp
 | true =>
  simp only [if_true,Int.natAbs_neg,Int.natAbs_natCast,Bool.true_and,RInt.mk.injEq,and_true]
  rw [decide_eq_decide,h0]
  omega
theorem Ext.new_cell {w W:World} {cs:Array Value} {T:TypeId} (h:Ext (w.alloc (.cells cs T)) W) {i:Nat} {v:Value} (hv:cs[i]? = some v):W.cell? ⟨w.heap.size,i,none⟩ = some v:=h.cell (z02 w cs T rfl hv)
theorem Ext.new_free {w W:World} {cs:Array Value} {T:TypeId} (h:Ext (w.alloc (.cells cs T)) W) (i:Nat):W.frozen? ⟨w.heap.size,i,none⟩ = false:=h.free (by simp) (z1n w cs T)
theorem z0v {w:World} {b:Nat} {u0 u1:Value} (x y:Value) (c0:w.cell? ⟨b,0,none⟩ = some u0) (c1:w.cell? ⟨b,1,none⟩ = some u1) :
  ((w.setCell ⟨b,0,none⟩ x).setCell ⟨b,1,none⟩ y).cell? ⟨b,0,none⟩ = some x ∧ ((w.setCell ⟨b,0,none⟩ x).setCell ⟨b,1,none⟩ y).cell? ⟨b,1,none⟩ = some y :=
 ⟨z0b (z1c c0) (ao (by decide)),z1c (z0b c1 (ao (by decide)))⟩
theorem Ext.set2 {a w:World} (h:Ext a w) {b:Nat} (hb:a.heap.size ≤ b) (x y:Value):Ext a ((w.setCell ⟨b,0,none⟩ x).setCell ⟨b,1,none⟩ y) :=
 (h.setCell (p:=⟨b,0,none⟩) hb x).setCell (p:=⟨b,1,none⟩) hb y
theorem Kept.set2 {S:Nat → Prop} {w:World} {b:Nat} (h:¬ S b) (x y:Value):Kept S w ((w.setCell ⟨b,0,none⟩ x).setCell ⟨b,1,none⟩ y) :=
 (Kept.setCell (a:=⟨b,0,none⟩) h x).trans (Kept.setCell (a:=⟨b,1,none⟩) h y)
theorem z4z {w:World} {b:Nat} (x y:Value):((w.setCell ⟨b,0,none⟩ x).setCell ⟨b,1,none⟩ y).heap.size = w.heap.size:=by rw [z06,z06]
theorem zai {S:Nat → Prop} (b:Bool) (v:Value) (zs:List Nat) (w:World) (h:U32s S w v zs) (hS:∀ k,S k → k < w.heap.size) (hr:zs.length ≤ 50000000000000) :
  Calls Tryz.prog 104 #[.bool b,v] w fun e w' => ∃ v',e = .returned v' ∧ IntV (New w w') w' v' (ofI (sg b (val B32 zs))) ∧ Ext w w':=by
 have H:=hid h
 obtain ⟨a,c,rfl⟩:=h.form
 clear h
 have HE:=hid (Ext.alloc (Ext.refl w) (.cells #[.bool false,.slice none 0 0] 26))
 go_enter Tryz.func104,Tryz.ntmps104
 go_wp2_with fail
 refine (z22 _ zs _ (H.out.to (Kept.ext HE.out hS) (fun _ h => h)) (fun k hk => Nat.lt_of_lt_of_le (hS k hk) HE.out.size) hr).mono ?_
 rintro e w1 ⟨v',rfl,hu,hx⟩
 generalize hn:val B32 zs = n at hu
 have HN:=hid hn
 have HX:=hid hx
 have c0:=hx.new_cell (i:=0) rfl
 have c1:=hx.new_cell (i:=1) rfl
 have f0:=hx.new_free 0
 have f1:=hx.new_free 1
 have HU:=hid hu
 obtain ⟨a',c',rfl⟩:=hu.form
 clear hn hu hx
 have HC:=hid (And.intro c0 c1)
 cases b
 all_goals
  go_wp2
  have hd:=fun x => z0v x (.slice a' (rep B32 n).length c') HC.out.1 HC.out.2
  refine bodyPost_ret (by simp [results,Tryz.results104,go_sem,(hd _).1,(hd _).2]; rfl) rfl ?_
  refine ⟨_,rfl,⟨_,by rw [zq9,HN.out]; rfl,?_⟩,(HE.out.trans HX.out).set2 (Nat.le_refl _) _ _⟩
  rw [zq9,HN.out]
  refine HU.out.to (Kept.set2 (fun h => ?_) _ _) (fun k hk => ⟨?_,?_⟩)
  ·have h1:=h.1
   rw [size_alloc] at h1
   omega
  ·have h1:=hk.1
   rw [size_alloc] at h1
   omega
  ·rw [z4z]
   exact hk.2
theorem z4b {S:Nat → Prop} (v:Value) (r:RInt) (w:World) (h:IntV S w v r) (hS:∀ k,S k → k < w.heap.size) :
  Calls Tryz.prog 64 #[v] w fun e w' => e = .returned (.bool (mayI r)) ∧ Ext w w':=by
 obtain ⟨ng,zs⟩:=r
 obtain ⟨vm,rfl,hu⟩:=h
 simp only at hu ⊢
 have hl:=hu.len_le
 have H:=hid hu
 obtain ⟨a,c,rfl⟩:=hu.form
 clear hu
 have HE:=hid (Ext.alloc (Ext.refl w) (.cells #[.bool ng,.slice a zs.length c] 26))
 by_cases h0:0 < zs.length
 ·obtain ⟨z,hz⟩:=z00 (show zs.length - 1 < zs.length by omega)
  obtain ⟨b,off,rfl,-,hn,hm,-,hzb,hc⟩:=(H.out.to (Kept.ext HE.out hS) (fun _ h => h)).cellAt hz
  have hR:mayI ⟨ng,zs⟩ = decide (z ≠ 0):=by
   unfold mayI
   rw [List.getLast?_eq_getElem?,hz]
  have HR:=hid hR
  clear hR hz
  go_enter Tryz.func64,Tryz.ntmps64
  go_wp2
  all_goals
   go_ret
   refine ⟨?_,HE.out⟩
   rw [HR.out]
   refine congrArg Ending.returned (congrArg Value.bool ?_)
   rw [Bool.eq_iff_iff]
   simp
 ·have HR:Hid (mayI ⟨ng,zs⟩ = !ng):=by
   obtain rfl:zs = []:=List.length_eq_zero_iff.1 (by omega)
   exact hid rfl
  have hnot:∀ (x:Bool) (w:World),(Op.unary .not (.bool x)).run Tryz.prog w = .ok (.bool (!x)) w:=fun _ _ => rfl
  have hb:(((zs.length:Nat):Int) == 0) = true:=by rw [beq_iff_eq]; omega
  go_enter Tryz.func64,Tryz.ntmps64
  go_wp2
  all_goals
   go_ret
   refine ⟨?_,HE.out⟩
   rw [HR.out]
   rfl
end
section
open Go.RowKit
theorem U32s.ext {S:Nat → Prop} {w W:World} {v:Value} {zs:List Nat} (h:U32s S w v zs) (hx:Ext w W) (hS:∀ k,S k → k < w.heap.size):U32s S W v zs:=h.to (Kept.ext hx hS) (fun _ h => h)
theorem z0a {S:Nat → Prop} {w W:World} (hS:∀ k,S k → k < w.heap.size) (hx:Ext w W):∀ k,S k → k < W.heap.size:=fun k hk => Nat.lt_of_lt_of_le (hS k hk) hx.size
theorem New.lt {w w':World}:∀ k,New w w' k → k < w'.heap.size:=fun _ h => h.2
theorem New.mono {a w w':World} (h:Ext a w):∀ k,New w w' k → New a w' k:=fun _ hk => ⟨Nat.le_trans h.size hk.1,hk.2⟩
theorem blk3 {w W:World} {c1 c2 c3:Array Value} {T1 T2 T3:TypeId} (h:Ext (((w.alloc (.cells c1 T1)).alloc (.cells c2 T2)).alloc (.cells c3 T3)) W) :
  (∀ i v,c1[i]? = some v → W.cell? ⟨w.heap.size,i,none⟩ = some v) ∧ (∀ i v,c2[i]? = some v → W.cell? ⟨w.heap.size + 1,i,none⟩ = some v) ∧ (∀ i v,c3[i]? = some v → W.cell? ⟨w.heap.size + 1 + 1,i,none⟩ = some v) ∧ ∀ i,W.frozen? ⟨w.heap.size + 1 + 1,i,none⟩ = false:=by
 have e2:Ext ((w.alloc (.cells c1 T1)).alloc (.cells c2 T2)) W:=(Ext.alloc (Ext.refl _) _).trans h
 have e1:Ext (w.alloc (.cells c1 T1)) W:=(Ext.alloc (Ext.refl _) _).trans e2
 refine ⟨fun i v hv => e1.new_cell hv,fun i v hv => ?_,fun i v hv => ?_,fun i => ?_⟩
 ·have:=e2.new_cell hv
  rwa [size_alloc] at this
 ·have:=h.new_cell hv
  rwa [size_alloc,size_alloc] at this
 ·have:=h.new_free i
  rwa [size_alloc,size_alloc] at this
theorem Ext.drew {a w:World} (h:Ext a w):Ext a w.drew:=⟨h.os,h.tape,h.output,h.size,h.block⟩
theorem znn {W:World} {a b c:Addr} {x y z:Value} (h1:W.cell? a = some x) (h2:W.cell? b = some y) (h3:W.cell? c = some z):W.drew.cell? a = some x ∧ W.drew.cell? b = some y ∧ W.drew.cell? c = some z :=
 ⟨by simpa using h1,by simpa using h2,by simpa using h3⟩
theorem z3n {w0 w1 w2:World} {b:Nat} {v:Value} {r:RInt} {vm:Value} (hv:v = .agg #[.bool r.neg,vm]) (hu:U32s (New w1 w2) w2 vm r.mag) (h01:Ext w0 w1) (h12:Ext w1 w2) (hb0:w0.heap.size ≤ b) (hb1:b < w1.heap.size) (x y:Value) :
  IntV (New w0 ((w2.setCell ⟨b,0,none⟩ x).setCell ⟨b,1,none⟩ y)) ((w2.setCell ⟨b,0,none⟩ x).setCell ⟨b,1,none⟩ y) v r ∧ Ext w0 ((w2.setCell ⟨b,0,none⟩ x).setCell ⟨b,1,none⟩ y):=by
 refine ⟨⟨vm,hv,hu.to (Kept.set2 (fun h => ?_) _ _) (fun k hk => ⟨Nat.le_trans h01.size hk.1,?_⟩)⟩,(h01.trans h12).set2 hb0 _ _⟩
 ·have:=h.1
  omega
 ·rw [z4z]
  exact hk.2
theorem z4k {S:Nat → Prop} (b:Bool) (v:Value) (n:Nat) (w:World) (h:U32s S w v (rep B32 n)) (hS:∀ k,S k → k < w.heap.size) (hr:(rep B32 n).length ≤ 50000000000000) :
  Calls Tryz.prog 104 #[.bool b,v] w fun e w' => ∃ v',e = .returned v' ∧ IntV (New w w') w' v' (ofI (sg b n)) ∧ Ext w w':=by
 have h1:=zai b v (rep B32 n) w h hS hr
 rwa [z0c z01] at h1
theorem zei {a b k:Nat} (ha:(rep B32 a).length ≤ k) (hb:(rep B32 b).length ≤ k):(rep B32 (a + b)).length ≤ k + 1:=by
 refine z0d z01 _ _ ?_
 have h1:=z0s z01 a
 have h2:=z0s z01 b
 have h3:B32 ^ (rep B32 a).length ≤ B32 ^ k:=Nat.pow_le_pow_right (by decide) ha
 have h4:B32 ^ (rep B32 b).length ≤ B32 ^ k:=Nat.pow_le_pow_right (by decide) hb
 rw [Nat.pow_succ]
 generalize B32 ^ k = P at *
 have:P * 2 ≤ P * B32:=Nat.mul_le_mul_left _ (by decide)
 omega
theorem z1q {a b:Nat} (h:a ≤ b):(rep B32 a).length ≤ (rep B32 b).length:=z0d z01 _ _ (Nat.lt_of_le_of_lt h (z0s z01 b))
theorem z3g {zs:List Nat} (h:∀ z ∈ zs,z < B32):(rep B32 (val B32 zs)).length ≤ zs.length:=z0d z01 _ _ (z13 zs h)
theorem zcd {S:Nat → Prop} (vx vy:Value) (x y:RInt) (w:World) (hx:IntV S w vx x) (hy:IntV S w vy y) (hS:∀ k,S k → k < w.heap.size) (hr:x.mag.length ≤ 40000000000000) (hr2:y.mag.length ≤ 40000000000000) :
  Calls Tryz.prog 164 #[vx,vy] w fun e w' => ∃ v',e = .returned v' ∧ IntV (New w w') w' v' (ofI (valI x + valI y)) ∧ Ext w w':=by
 obtain ⟨xn,xs⟩:=x
 obtain ⟨yn,ys⟩:=y
 obtain ⟨vxm,rfl,hxu⟩:=hx
 obtain ⟨vym,rfl,hyu⟩:=hy
 simp only at hxu hyu hr hr2 ⊢
 have HX:=hid hxu
 have HY:=hid hyu
 obtain ⟨ax,cx,rfl⟩:=hxu.form
 obtain ⟨ay,cy,rfl⟩:=hyu.form
 clear hxu hyu
 have HK:=hid (Ext.alloc (Ext.alloc (Ext.alloc (Ext.refl w) (.cells #[.bool xn,.slice ax xs.length cx] 26)) (.cells #[.bool yn,.slice ay ys.length cy] 26)) (.cells #[.bool false,.slice none 0 0] 26))
 have HXK:=hid (HX.out.ext HK.out hS)
 have HYK:=hid (HY.out.ext HK.out hS)
 have HSK:=hid (z0a hS HK.out)
 have hsz:w.heap.size + 1 + 1 < (((w.alloc (.cells #[.bool xn,.slice ax xs.length cx] 26)).alloc (.cells #[.bool yn,.slice ay ys.length cy] 26)).alloc (.cells #[.bool false,.slice none 0 0] 26)).heap.size:=by simp
 have HSZ:=hid hsz
 clear hsz
 by_cases hxy:xn = yn
 ·have hb:(xn == yn) = true:=by rw [beq_iff_eq]; exact hxy
  have HQ:Hid (valI ⟨xn,xs⟩ + valI ⟨yn,ys⟩ = sg xn (val B32 xs + val B32 ys)):=hid (by
   subst hxy
   unfold valI sg
   cases xn <;> (simp; try omega))
  subst hxy
  obtain ⟨b1,b2,b3,b4⟩:=blk3 (Ext.refl (((w.alloc (.cells #[.bool xn,.slice ax xs.length cx] 26)).alloc (.cells #[.bool xn,.slice ay ys.length cy] 26)).alloc (.cells #[.bool false,.slice none 0 0] 26)))
  have c1:=b1 0 _ rfl
  have c2:=b1 1 _ rfl
  have c3:=b2 1 _ rfl
  clear b1 b2 b3 b4
  have S0:=znn c1 c2 c3
  clear c1 c2 c3
  have HS0:=hid S0
  clear S0
  go_enter Tryz.func164,Tryz.ntmps164
  go_wp2
  have S0:=HS0.out
  have HL:Hid ((rep B32 (val B32 xs + val B32 ys)).length ≤ 50000000000000):=hid (Nat.le_trans (zei (k:=40000000000000) (Nat.le_trans (z3g HX.out.lt) hr) (Nat.le_trans (z3g HY.out.lt) hr2)) (by decide))
  go_region_held3 (fun W => W.cell? ⟨w.heap.size,0,none⟩ = some (.bool xn) ∧ W.cell? ⟨w.heap.size,1,none⟩ = some (.slice ax xs.length cx) ∧ W.cell? ⟨w.heap.size + 1,1,none⟩ = some (.slice ay ys.length cy)) (first | exact S0 | exact S1 | exact S2 | exact ⟨z0b (z0b S2.1 (ab (by omega))) (ab (by omega)),z0b (z0b S2.2.1 (ab (by omega))) (ab (by omega)),z0b (z0b S2.2.2 (ab (by omega))) (ab (by omega))⟩)
   (first
    | (go_at_call 173; (with_reducible refine (zr0 _ _ xs ys _ (HX.out.ext (HK.out.drew) hS) (HY.out.ext (HK.out.drew) hS) (z0a hS (HK.out.drew)) (by omega) (by omega)).mono ?_); rintro e w1 ⟨v1,rfl,hu1,hx1⟩; have S1:=And.intro (hx1.cell S0.1) (And.intro (hx1.cell S0.2.1) (hx1.cell S0.2.2)); have HX1:=hid hx1; have HU1:=hid hu1; obtain ⟨a1,n1,rfl⟩:=hu1.form; clear hx1 hu1)
    | (go_at_call 104; (with_reducible refine (z4k xn _ _ _ HU1.out New.lt HL.out).mono ?_); rintro e w2 ⟨v2,rfl,⟨vm2,rfl,hu2⟩,hx2⟩; have S2:=And.intro (hx2.cell S1.1) (And.intro (hx2.cell S1.2.1) (hx2.cell S1.2.2)); have HX2:=hid hx2; have HU2:=hid hu2; obtain ⟨a2,n2,rfl⟩:=hu2.form; obtain ⟨-,-,d3,d4⟩:=blk3 ((Ext.drew (Ext.refl _)).trans (HX1.out.trans hx2)); have e0:=d3 0 _ rfl; have e1:=d3 1 _ rfl; have HE:=hid (And.intro e0 e1); have f0:=d4 0; have f1:=d4 1; clear d3 d4 hx2 hu2))
  go_wp2
  have hd:=fun x y => z0v x y HE.out.1 HE.out.2
  refine bodyPost_ret (by simp [results,Tryz.results164,go_sem,(hd _ _).1,(hd _ _).2]; rfl) rfl ?_
  have hg:=z3n (w0:=w) (b:=w.heap.size + 1 + 1) rfl HU2.out (HK.out.drew.trans HX1.out) HX2.out (by omega) (Nat.lt_of_lt_of_le HSZ.out HX1.out.size) (.bool (ofI (sg xn (val B32 xs + val B32 ys))).neg) (.slice a2 (ofI (sg xn (val B32 xs + val B32 ys))).mag.length n2)
  rw [HQ.out]
  exact ⟨_,rfl,hg.1,hg.2⟩
 ·have hb:(xn == yn) = false:=by rw [beq_eq_false_iff_ne]; exact hxy
  obtain ⟨b1,b2,b3,b4⟩:=blk3 (Ext.refl (((w.alloc (.cells #[.bool xn,.slice ax xs.length cx] 26)).alloc (.cells #[.bool yn,.slice ay ys.length cy] 26)).alloc (.cells #[.bool false,.slice none 0 0] 26)))
  have c1:=b1 0 _ rfl
  have c2:=b1 1 _ rfl
  have c3:=b2 1 _ rfl
  have c4:=b2 0 _ rfl
  clear b1 b2 b3 b4
  by_cases hge:val B32 ys ≤ val B32 xs
  ·have HQ:Hid (valI ⟨xn,xs⟩ + valI ⟨yn,ys⟩ = sg xn (val B32 xs - val B32 ys)):=hid (by
    unfold valI sg
    cases xn <;> cases yn <;> first | (exact absurd rfl hxy) | (simp; omega))
   have HGE:=hid hge
   have HXY:=hid hxy
   clear hge hxy
   go_enter Tryz.func164,Tryz.ntmps164
   go_wp2_with fail
   refine (z9d _ _ xs ys _ HXK.out HYK.out HSK.out (by omega) HGE.out).mono ?_
   rintro e w1 ⟨v1,rfl,hu1,hx1⟩
   obtain ⟨g1,g2,-,-⟩:=blk3 hx1
   have k1:=g1 0 _ rfl
   clear g1 g2
   have HXX:=hid hx1
   have HU1:=hid hu1
   obtain ⟨a1,n1,rfl⟩:=hu1.form
   have HL:Hid ((rep B32 (val B32 xs - val B32 ys)).length ≤ 50000000000000):=hid (Nat.le_trans (Nat.le_trans (z1q (Nat.sub_le _ _)) (z3g HX.out.lt)) (by omega))
   clear hx1 hu1
   go_wp2_with fail
   refine (z4k xn _ _ _ HU1.out New.lt HL.out).mono ?_
   rintro e w2 ⟨v2,rfl,⟨vm2,rfl,hu2⟩,hx2⟩
   have HX2:=hid hx2
   have HU2:=hid hu2
   obtain ⟨a2,n2,rfl⟩:=hu2.form
   obtain ⟨-,-,d3,d4⟩:=blk3 (HXX.out.trans hx2)
   have e0:=d3 0 _ rfl
   have e1:=d3 1 _ rfl
   have HE:=hid (And.intro e0 e1)
   have f0:=d4 0
   have f1:=d4 1
   clear d3 d4 hx2 hu2
   go_wp2
   have hd:=fun x y => z0v x y HE.out.1 HE.out.2
   refine bodyPost_ret (by simp [results,Tryz.results164,go_sem,(hd _ _).1,(hd _ _).2]; rfl) rfl ?_
   have hg:=z3n (w0:=w) (b:=w.heap.size + 1 + 1) rfl HU2.out (HK.out.trans HXX.out) HX2.out (by omega) (Nat.lt_of_lt_of_le HSZ.out HXX.out.size) (.bool (ofI (sg xn (val B32 xs - val B32 ys))).neg) (.slice a2 (ofI (sg xn (val B32 xs - val B32 ys))).mag.length n2)
   rw [HQ.out]
   exact ⟨_,rfl,hg.1,hg.2⟩
  ·have HQ:Hid (valI ⟨xn,xs⟩ + valI ⟨yn,ys⟩ = sg yn (val B32 ys - val B32 xs)):=hid (by
    unfold valI sg
    cases xn <;> cases yn <;> first | (exact absurd rfl hxy) | (simp; omega))
   have HGE:=hid hge
   have HXY:=hid hxy
   clear hge hxy
   go_enter Tryz.func164,Tryz.ntmps164
   go_wp2_with fail
   refine (zhn _ _ xs ys _ HXK.out HYK.out HSK.out (by have:=HGE.out; omega)).mono ?_
   rintro e w1 ⟨rfl,hx1⟩
   obtain ⟨g1,g2,-,-⟩:=blk3 hx1
   have k1:=g1 1 _ rfl
   have k2:=g2 1 _ rfl
   have k3:=g2 0 _ rfl
   clear g1 g2
   have HX1:=hid hx1
   clear hx1
   go_wp2_with fail
   refine (z9d _ _ ys xs _ (HY.out.ext (HK.out.trans HX1.out) hS) (HX.out.ext (HK.out.trans HX1.out) hS) (z0a hS (HK.out.trans HX1.out)) (by omega) (by have:=HGE.out; omega)).mono ?_
   rintro e w1' ⟨v1,rfl,hu1,hx1⟩
   obtain ⟨g1,g2,-,-⟩:=blk3 (HX1.out.trans hx1)
   have k4:=g2 0 _ rfl
   clear g1 g2
   have HXX:=hid (HX1.out.trans hx1)
   have HU1:=hid hu1
   obtain ⟨a1,n1,rfl⟩:=hu1.form
   have HL:Hid ((rep B32 (val B32 ys - val B32 xs)).length ≤ 50000000000000):=hid (Nat.le_trans (Nat.le_trans (z1q (Nat.sub_le _ _)) (z3g HY.out.lt)) (by omega))
   clear hx1 hu1
   go_wp2_with fail
   refine (z4k yn _ _ _ HU1.out New.lt HL.out).mono ?_
   rintro e w2 ⟨v2,rfl,⟨vm2,rfl,hu2⟩,hx2⟩
   have HX2:=hid hx2
   have HU2:=hid hu2
   obtain ⟨a2,n2,rfl⟩:=hu2.form
   obtain ⟨-,-,d3,d4⟩:=blk3 (HXX.out.trans hx2)
   have e0:=d3 0 _ rfl
   have e1:=d3 1 _ rfl
   have HE:=hid (And.intro e0 e1)
   have f0:=d4 0
   have f1:=d4 1
   clear d3 d4 hx2 hu2
   go_wp2
   have hd:=fun x y => z0v x y HE.out.1 HE.out.2
   refine bodyPost_ret (by simp [results,Tryz.results164,go_sem,(hd _ _).1,(hd _ _).2]; rfl) rfl ?_
   have hg:=z3n (w0:=w) (b:=w.heap.size + 1 + 1) rfl HU2.out (HK.out.trans HXX.out) HX2.out (by omega) (Nat.lt_of_lt_of_le HSZ.out HXX.out.size) (.bool (ofI (sg yn (val B32 ys - val B32 xs))).neg) (.slice a2 (ofI (sg yn (val B32 ys - val B32 xs))).mag.length n2)
   rw [HQ.out]
   exact ⟨_,rfl,hg.1,hg.2⟩
end
end Go.Proofs.YtbfflodidkfphaaGreat
