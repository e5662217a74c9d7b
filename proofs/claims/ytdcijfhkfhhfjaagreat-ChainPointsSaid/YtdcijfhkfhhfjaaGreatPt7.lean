/- A slice of terms, copied, and sorted by falling monomials. Slices of terms put behind one another. Terms collected: sorted, and summed by their monomials. May some polynomials be; the sum of two. The terms that are picked out of a polynomial, with other monomials: view.picked, for any function that picks. A monomial without a variable: a slice of the call's own. Ranks of initial, tail and derivative; derivatives by two variables. Plain. Coefficient, initial and tail: the program's answers. The sum of any terms: the program's answer. The product of two monomials: the program's answer. A small number as a whole number. The derivative: the program's answer. The document: classes, degrees and ranks of polynomials. Which polynomials are too great for the law. Bounds on the limbs of coefficients, and what a small polynomial is. The product of two polynomials: the program's answer. -/
import Derived.Lib.SmallJoins
import Derived.Test.YtdcijfhkfhhfjaaGreatPt6
set_option maxRecDepth 100000
set_option maxHeartbeats 16000000
namespace Go.Proofs.YtdcijfhkfhhfjaaGreat
section
open Go.RowKit Go.Sort
theorem z06.src {S:Nat → Prop} {w:World} {A:Option Addr} {n cap:Nat} {ts:List RTerm} (h:z06 S w (.slice A n cap) ts):n = ts.length ∧ ∃ xs,z0x S w xs ts ∧ zcr w A n 3 xs:=by
 obtain ⟨b,off,⟨a',cap',h1,h2,h3,h4,h5⟩,hc⟩:=h
 obtain ⟨rfl,rfl,rfl⟩:A = a' ∧ n = ts.length ∧ cap = cap':=by simpa using h1
 refine ⟨rfl,?_⟩
 clear h1 h2 h3 h5
 have main:∀ (us:List RTerm) (k:Nat),(∀ j t,us[j]? = some t → ∃ vm vo,w.cell? ⟨b,off + (k + j) * 3,none⟩ = some (.bool t.c.neg) ∧ w.cell? ⟨b,off + (k + j) * 3 + 1,none⟩ = some vm ∧ w.cell? ⟨b,off + (k + j) * 3 + 2,none⟩ = some vo ∧ U32s S w vm t.c.mag ∧ Pows S w vo t.m) →
   ∃ xs,z0x S w xs us ∧ ∀ j u,xs[j]? = some u → w.cell? ⟨b,off + k * 3 + j,none⟩ = some u:=by
  intro us
  induction us with
  | nil => intro k _; exact ⟨[],rfl,fun j u hu => by simp at hu⟩
  | cons t r ih =>
   intro k hk
   obtain ⟨vm,vo,g1,g2,g3,g4,g5⟩:=hk 0 t rfl
   obtain ⟨xs,hx1,hx2⟩:=ih (k + 1) (fun j u hu => by
    have:=hk (j + 1) u (by simpa using hu)
    rw [show k + (j + 1) = k + 1 + j by omega] at this
    exact this)
   refine ⟨.bool t.c.neg :: vm :: vo :: xs,⟨vm,vo,xs,rfl,g4,g5,hx1⟩,fun j u hu => ?_⟩
   rw [Nat.add_zero] at g1 g2 g3
   match j,hu with
   | 0, hu => obtain rfl : _ = u := by simpa using hu
              exact g1
   | 1, hu => obtain rfl : _ = u := by simpa using hu
              exact g2
   | 2, hu => obtain rfl : _ = u := by simpa using hu
              exact g3
   | j + 3,hu =>
    have:=hx2 j u (by simpa using hu)
    rw [show off + k * 3 + (j + 3) = off + (k + 1) * 3 + j by omega]
    exact this
 obtain ⟨xs,hx1,hx2⟩:=main ts 0 (fun j t hj => by rw [Nat.zero_add]; exact hc j t hj)
 refine ⟨xs,hx1,by rw [hx1.length],hx1.one,fun h0 => ⟨_,h4 h0,fun j u hu => ?_⟩⟩
 rw [z8c]
 have:=hx2 j u hu
 simpa using this
theorem z06.of_none {S:Nat → Prop} {w:World} {n cap:Nat} {m:List RTerm} (h:z06 S w (.slice Option.none n cap) m):m = []:=by
 obtain ⟨b,off,⟨a',cap',h1,h2,h3,h4,h5⟩,hc⟩:=h
 obtain ⟨rfl,rfl,rfl⟩:Option.none = a' ∧ n = m.length ∧ cap = cap':=by simpa using h1
 rcases Nat.eq_zero_or_pos m.length with h0 | h0
 ·exact List.length_eq_zero_iff.1 h0
 ·cases h4 h0
theorem z06.onS {S:Nat → Prop} {w W:World} {v:Value} {z:List RTerm} (h:z06 S w v z) (hx:Ext w W) (hS:∀ k,S k → k < w.heap.size):z06 S W v z:=h.ext hx hS
theorem zi8 {S:Nat → Prop} (v:Value) (ts:List RTerm) (w:World) (h:z06 S w v ts) (hS:∀ k,S k → k < w.heap.size) (hr:ts.length ≤ 1000000000000) :
  Calls Tryz.prog 86 #[v] w fun e w' => ∃ v' xs,e = .returned v' ∧ w'.ownsRow w.heap.size 50 3 v' ts.length xs ∧ z0x S w' xs ts ∧ Ext w w':=by
 obtain ⟨i0,hi,hz0,hz1,hz2⟩:=info_parts Tryz.infoTerm
 have H:=hid h
 obtain ⟨A,c,rfl⟩:=h.form
 clear h
 have hnil:=fun (w:World) => Lib.run_eql_slice_nil (P:=Tryz.prog) w 22 50 A ts.length c 0 0 Tryz.underlying22
 cases A with
 | none =>
  have HM:=hid H.out.of_none
  go_enter Tryz.func86,Tryz.ntmps86
  go_wp2
  all_goals
   go_ret
   have e:=HM.out
   subst e
   exact ⟨_,[],rfl,World.ownsRow_nil _ _ _ _,rfl,Ext.refl _⟩
 | some ad =>
  have hx0:Ext w (w.alloc (.cells #[] 50)):=Ext.alloc (Ext.refl w) _
  obtain ⟨-,xs,hc,hs⟩:=(H.out.ext hx0 hS).src
  have HS:=hid hs
  have HCC:=hid hc
  have HO:=hid (World.ownsRow_made (base:=w.heap.size) (e:=50) (size:=3) w #[] 0 (Nat.le_refl _) (by unfold maxLen; omega) (by simp))
  have HR:=hid hr
  clear hx0 hc hs
  go_enter Tryz.func86,Tryz.ntmps86
  go_wp2_with (at_builtin; refine z0u _ rfl (.tmp 5) (.tmp 6) 22 rfl w.heap.size 50 i0 (.agg #[.bool false,.slice none 0 0,.slice none 0 0]) 3 56 Tryz.underlying22 hi hz0 hz1 hz2 rfl (by decide) (.slice (some ⟨w.heap.size,0,none⟩) 0 0) 0 [] rfl HO.out (some ad) ts.length c xs rfl HS.out (by have:=HR.out; unfold maxLen; omega) (by have:=HR.out; omega) (by simp) ?_; intro v1 w1 hown hg _; have HW:=hid hown; have HG:=hid hg; clear hown hg)
  go_ret
  have hx:Ext w w1:=by
   refine z0n (Ext.alloc (Ext.refl w) _) HG.out (fun k hk => ?_)
   have e:w.heap.size = k:=by simpa [Value.ownBlock] using hk
   omega
  refine ⟨v1,xs,rfl,by simpa using HW.out,?_,hx⟩
  exact HCC.out.to (Kept.grown HG.out (fun k hk => ⟨by have:=hS k hk; simp; omega,fun e => by have:=hS k hk; simp [Value.ownBlock] at e; omega⟩)) (fun _ h => h)
structure TermIn (S:Nat → Prop) (w:World) where
 t:RTerm
 c:TCell
 neg:c.neg = t.c.neg
 hm:U32s S w (.slice c.ma c.mn c.mc) t.c.mag
 ho:Pows S w (.slice c.oa c.on c.oc) t.m
 may:mayM t.m = true
instance (S:Nat → Prop) (w:World):Inhabited (TermIn S w):=⟨⟨⟨⟨false,[]⟩,[]⟩,⟨false,none,0,0,none,0,0⟩,rfl,U32s.nilv _ _ _ _ (by decide),Pows.empty _ _ _,rfl⟩⟩
section
variable {S:Nat → Prop} {w:World}
theorem zi9 {xs:List Value} {ts:List RTerm} (h:z0x S w xs ts) (hm:∀ t ∈ ts,mayM t.m = true):∃ d:List (TermIn S w),d.map (·.t) = ts ∧ xs = (d.map (encT (fun x:TermIn S w => x.c))).flatten:=by
 induction ts generalizing xs with
 | nil =>
  have e:xs = []:=h
  subst e
  exact ⟨[],rfl,rfl⟩
 | cons t r ih =>
  obtain ⟨vd,vo,ys,rfl,h1,h2,h3⟩:=h
  obtain ⟨d,hd1,hd2⟩:=ih h3 (fun u hu => hm u (by simp [hu]))
  obtain ⟨a1,c1,rfl⟩:=h1.form
  obtain ⟨a2,c2,rfl⟩:=h2.form
  exact ⟨⟨t,⟨t.c.neg,a1,_,c1,a2,_,c2⟩,rfl,h1,h2,hm t (by simp)⟩ :: d,by simp [hd1],by simp [hd2]⟩
theorem zwi {α:Type} {enc:α → List Value} {d:List α} (hk:∀ x,(enc x).length = 3) {j c:Nat} {x:α} (hj:d[j]? = some x) (hc:c < 3):(d.map enc).flatten[j * 3 + c]? = (enc x)[c]?:=by
 induction d generalizing j with
 | nil => simp at hj
 | cons y r ih =>
  simp only [List.map_cons,List.flatten_cons]
  cases j with
  | zero =>
   obtain rfl:y = x:=by simpa using hj
   rw [List.getElem?_append_left (by rw [hk]; omega)]
   congr 1
   omega
  | succ j =>
   rw [List.getElem?_append_right (by rw [hk]; omega),hk]
   rw [show (j + 1) * 3 + c - 3 = j * 3 + c by omega]
   exact ih (by simpa using hj)
theorem zl9 {base g n cap:Nat} {e:TypeId} {xs:List Value} {d:List (TermIn S w)} (h:w.ownsRow base e 3 (.slice (some ⟨g,0,none⟩) n cap) n xs) (hx:xs = (d.map (encT (fun x:TermIn S w => x.c))).flatten) (hn:n = d.length):SortAt (encT (fun x:TermIn S w => x.c)) 3 w g 0 d w ∧ n ≤ cap ∧ cap ≤ maxLen:=by
 obtain ⟨hl,hh⟩:=h
 rcases hh with ⟨h1,_⟩ | ⟨g',cap',cur,h1,h2,h3,h4,h5,h6,h7⟩
 ·simp at h1
 ·obtain ⟨rfl,rfl⟩:g = g' ∧ cap = cap':=by simpa using h1
  refine ⟨⟨zl6 _ _,?_,(Array.getElem?_eq_some_iff.1 h3).1⟩,h4,h5⟩
  have cell:∀ k,k < n * 3 → w.cell? ⟨g,k,none⟩ = xs[k]? ∧ w.frozen? ⟨g,k,none⟩ = false:=fun k hk => by
   unfold World.cell? World.frozen?
   simp only [h3]
   rw [← h7,List.getElem?_take,if_pos hk]
   simp
  intro j hj
  rw [size_flatK] at hj
  have hj3:j < d.length * 3:=by simpa using hj
  obtain ⟨x,hxd⟩:=z01 (show j / 3 < d.length by omega)
  have hc:=cell j (by rw [hn]; exact hj3)
  rw [Nat.zero_add]
  refine ⟨?_,hc.2⟩
  rw [hc.1,hx,get_flatK _ _ _ _ hj,za8 hxd]
  have:=zwi (enc:=encT (fun x:TermIn S w => x.c)) (fun _ => rfl) hxd (c:=j % 3) (Nat.mod_lt _ (by decide))
  rw [show j / 3 * 3 + j % 3 = j by omega] at this
  rw [this]
  have h3:=Nat.mod_lt j (show 0 < 3 by decide)
  simp only [id]
  rcases (show j % 3 = 0 ∨ j % 3 = 1 ∨ j % 3 = 2 by omega) with e | e | e <;> simp [e]
end
def zsm {S:Nat → Prop} {w:World} (x y:TermIn S w):Int:=z4e y.t.m x.t.m
def zef {S:Nat → Prop} {w:World} (x y:TermIn S w):Bool:=decide (0 ≤ z4e x.t.m y.t.m)
theorem z3v {a b:Mono} (ha:mayM a = true) (hb:mayM b = true):z4e a b = z0e a b:=by unfold z4e; simp [ha,hb]
theorem zoo {S:Nat → Prop} {w:World}:CmpLe (zsm (S:=S) (w:=w)) zef:=by
 refine ⟨fun x y => z6v _ _,fun x y => rfl,⟨fun a b c h1 h2 => ?_,fun a b => ?_⟩⟩
 ·unfold zef at *
  rw [z3v a.may b.may] at h1
  rw [z3v b.may c.may] at h2
  rw [z3v a.may c.may]
  simp only [decide_eq_true_eq] at *
  rcases z1n a.may b.may with g | g | g
  ·omega
  ·rw [(z28 a.may b.may).1 g]; exact h2
  ·rcases z1n b.may c.may with k | k | k
   ·omega
   ·rw [← (z28 b.may c.may).1 k]; exact h1
   ·have:=z3z a.may b.may c.may g k
    omega
 ·unfold zef
  rw [z3v a.may b.may,z3v b.may a.may]
  simp only [decide_eq_true_eq]
  have:=z6r a.may b.may
  omega
theorem zeg {S:Nat → Prop} {w:World} {g:Nat} (hS:∀ k,S k → k < w.heap.size ∧ k ≠ g):CmpT 88 (fun x:TermIn S w => x.c) zsm w g:=by
 intro W hW x y
 simp only []
 have hk:Kept S w W:=Kept.grown hW (fun k hk => ⟨(hS k hk).1,fun e => (hS k hk).2 (Option.some.inj e)⟩)
 have hSW:∀ k,S k → k < W.heap.size:=fun k hk => Nat.lt_of_lt_of_le (hS k hk).1 hW.size
 have hx:=x.ho.to hk (fun _ h => h)
 have hy:=y.ho.to hk (fun _ h => h)
 have HC:=fun (W':World) (hE:Ext W W') => z7a _ _ y.t.m x.t.m W' (hy.ext hE hSW) (hx.ext hE hSW) (z08 hSW hE)
 have HCC:=hid HC
 unfold zsm
 generalize z4e y.t.m x.t.m = c at *
 generalize x.c = cx at *
 generalize y.c = cy at *
 have HK:=hid (Ext.alloc (Ext.alloc (Ext.refl W) (.cells #[.bool cx.neg,.slice cx.ma cx.mn cx.mc,.slice cx.oa cx.on cx.oc] 50)) (.cells #[.bool cy.neg,.slice cy.ma cy.mn cy.mc,.slice cy.oa cy.on cy.oc] 50))
 clear HC hx hy hk hSW
 go_enter Tryz.func88,Tryz.ntmps88
 go_wp2_with fail
 with_reducible refine (HCC.out _ HK.out).mono ?_
 rintro e w1 ⟨rfl,hx1⟩
 have HX1:=hid (HK.out.trans hx1)
 clear hx1
 go_wp2
 all_goals
  go_ret
  exact ⟨rfl,HX1.out⟩
theorem zop {S:Nat → Prop} {w:World} {d:List (TermIn S w)} (h:z12 zef d):(d.map (·.t)).Pairwise fun a b => 0 ≤ z0e a.m b.m:=by
 rw [List.pairwise_map]
 refine List.Pairwise.imp (fun {a b} hab => ?_) h
 unfold zef at hab
 rw [z3v a.may b.may] at hab
 simpa using hab
theorem zia (A:Option Addr) (c:Nat) (W:World):Calls Tryz.prog 87 #[.slice A 0 c,.func (.func 88) #[] #[]] W fun e w' => e = .returned (.tuple #[]) ∧ W = w':=by
 have hi:∀ W,Calls Tryz.prog 134 #[.slice A 0 c,.int .i64 0,.int .i64 0,.func (.func 88) #[] #[]] W fun e w' => e = .returned (.tuple #[]) ∧ W = w':=by
  intro W
  go_enter Tryz.func134,Tryz.ntmps134
  go_wp2
  refine wp_loop_rounds 1 ?_
  rw [rounds_succ]
  go_wp2
  go_end0
  exact ⟨rfl,rfl⟩
 have HI:=hid hi
 have hs:Calls Tryz.prog 118 #[.slice A 0 c,.int .i64 0,.func (.func 88) #[] #[]] W fun e w' => e = .returned (.tuple #[]) ∧ W = w':=by
  clear hi
  go_enter Tryz.func118,Tryz.ntmps118
  go_wp2
  refine wp_loop_rounds 1 ?_
  rw [rounds_succ]
  go_wp2_with fail
  with_reducible refine (HI.out _).mono ?_
  rintro e w1 ⟨rfl,rfl⟩
  go_wp2
  refine wp_loop_rounds 1 ?_
  rw [rounds_succ]
  go_wp2
  go_end0
  exact ⟨rfl,rfl⟩
 have HS:=hid hs
 clear hi hs
 go_enter Tryz.func87,Tryz.ntmps87
 go_wp2_with fail
 with_reducible refine HS.out.mono ?_
 rintro e w1 ⟨rfl,rfl⟩
 go_wp2
 go_end0
 exact ⟨rfl,rfl⟩
end
section
open Go.RowKit Go.Sort
section
variable {P:Program}
theorem zai (w:World) (t u ty e:TypeId) (k:IntKind) (i:TypeInfo) (z:Value) (ht:P.underlying t = some (.slice e)) (hu:P.underlying u = some (.int k)) (hi:P.info? e = some i) (hz:i.zero = some z)
  (n:Nat) (h0:0 < n) (h63:(n:Int) ≤ 9223372036854775807) (h48:n * i.bytes ≤ 281474976710656) (hs:0 < i.size) :
  (Builtin.append_ #[t,u] ty #[.slice none 0 0,.int .i64 (n:Int)]).run P w =
   .ok (.slice (some ⟨w.heap.size,0,none⟩) n (grownCap w n 0 e)) (w.drew.alloc (.cells (Builtin.zeroCells z.cells n ++ Builtin.zeroCells z.cells (grownCap w n 0 e - n)) e)):=by
 have hn:n ≠ 0:=by omega
 have hns:n * i.size ≠ 0:=by
  have:=Nat.mul_pos h0 hs
  omega
 have h63':¬ (9223372036854775807 < (n:Int)):=by omega
 have h48':¬ (281474976710656 < Builtin.nextslicecap n 0 * i.bytes):=by rw [nextslicecap_zero h0]; omega
 have h48i:¬ (281474976710656 < (n:Int) * (i.bytes:Int)):=by
  have:((n * i.bytes:Nat):Int) ≤ 281474976710656:=by omega
  rw [Int.natCast_mul] at this
  omega
 have hw:IntKind.i64.wrap (n:Int) = (n:Int):=by rw [IntKind.wrap_i64]; omega
 have hneg:¬ ((n:Int) < 0):=by omega
 have hsz:¬ i.size = 0:=by omega
 simp [Builtin.append_,run_underlying ht,run_underlying hu,sizeOf,typeInfo,zeroValue,hi,hz,asInt,asIntOf,hw,hneg,h48i,hn,hns,h63',h48',Question.forced,run_firstCells_none,newRow,grownCap]
theorem z8f (w:World) {ops:Array Oper} {rest:List Oper} {o:Oper} {a:Act} {Q:Exit → Act → World → Prop} (hgd:o.guard = none) (s x:Operand) (t u:TypeId) (k:IntKind)
  (ho:o.op = .call { callee:=.builtin .append,args:=#[s,x],argTypes:=#[t,u] })
  (e:TypeId) (i:TypeInfo) (z:Value) (size bytes:Nat) (ht:P.underlying t = some (.slice e)) (hu:P.underlying u = some (.int k)) (hi:P.info? e = some i) (hz:i.zero = some z)
  (hsize:i.size = size) (hby:i.bytes = bytes) (hzs:z.cells.size = size) (hsz:0 < size)
  (n:Nat) (hs:a.eval s = .slice none 0 0) (hx:a.eval x = .int .i64 (n:Int)) (h0:0 < n) (h63:n ≤ maxLen) (hbytes:n * bytes ≤ 140737488355328)
  (h:∀ cap w',w'.ownsRow w.heap.size e size (.slice (some ⟨w.heap.size,0,none⟩) 0 cap) 0 [] → n ≤ cap → Ext w w' → wpList P ops Q rest (a.put o.dst (.slice (some ⟨w.heap.size,0,none⟩) n cap)) w'):wpList P ops Q (o :: rest) a w:=by
 have hrun:=zai (P:=P) w t u o.type e k i z ht hu hi hz n h0 (by unfold maxLen at h63; omega) (by rw [hby]; omega) (by omega)
 have hcm:grownCap w n 0 e ≤ maxLen:=grownCap_le_maxLen w n 0 e h63
 have hge:=grownCap_ge w n 0 e
 refine wpList_plain hgd fun K hK => ?_
 unfold Oper.wp execOp
 simp only [ho,resolve,invoke,builtin,Sem.run_bind,Sem.run_pure,Result.andThen_ok,List.map_toArray,List.map_cons,List.map_nil,hs,hx,hrun]
 refine hK _ _ (h _ _ ?_ hge ?_)
 ·refine ⟨by simp,.inr ⟨w.heap.size,_,_,rfl,Nat.le_refl _,heap_alloc_new w.drew _,Nat.zero_le _,hcm,?_,by simp⟩⟩
  simp only [Array.size_append,size_zeroCells,hzs,← Nat.add_mul]
  congr 1
  omega
 ·exact ((Ext.refl w).drew).alloc _
end
theorem zla (n:Nat) (w:World) (hn:n ≤ 1000000000000) :
  Calls Tryz.prog 89 #[.slice none 0 0,.int .i64 n] w fun e w' => ∃ v',e = .returned v' ∧ w'.ownsRow w.heap.size 50 3 v' 0 [] ∧ Ext w w':=by
 obtain ⟨j0,hj,jz0,jz1,jz2⟩:=info_parts Tryz.infoTerm
 rcases Nat.eq_zero_or_pos n with rfl | h0
 ·go_enter Tryz.func89,Tryz.ntmps89
  go_wp2
  go_ret
  exact ⟨_,rfl,World.ownsRow_nil _ _ _ _,Ext.refl _⟩
 ·have q0:(n:Int) > 0:=by omega
  go_enter Tryz.func89,Tryz.ntmps89
  go_wp2_with (at_builtin; refine z8f _ rfl (.tmp 20) (.tmp 21) 23 3 .i64 rfl 50 j0 (.agg #[.bool false,.slice none 0 0,.slice none 0 0]) 3 56 Tryz.underlying23 Tryz.underlying3 hj jz0 jz1 jz2 rfl (by decide) n rfl rfl h0 (by unfold maxLen; omega) (by omega) ?_; intro cap w1 hown hcap hx; have HW:=hid hown; have HX:=hid hx; clear hown hx)
  go_ret
  exact ⟨_,rfl,HW.out,HX.out⟩
theorem zgk {α:Type} {ls:List (List α)} {k:Nat} {p:List α} (h:ls[k]? = some p):(ls.take (k + 1)).flatten = (ls.take k).flatten ++ p:=by
 rw [List.take_add_one,h]
 simp
theorem zwj {α:Type} (ls:List (List α)) (k:Nat):(ls.take k).flatten.length ≤ ls.flatten.length:=by
 conv => rhs; rw [← List.take_append_drop k ls]
 rw [List.flatten_append,List.length_append]
 omega
theorem z85 {S:Nat → Prop} {w2:World} {base:Nat} {e:TypeId} {v:Value} {n:Nat} {xs:List Value} {l:List RTerm} {ys:List Value} {w1:World} (hS:∀ k,S k → k < base) (hw:base ≤ w1.heap.size) (h:z0x S w1 xs l) (ho:w1.ownsRow base e 3 v n ys) (hg:w1.grownBy w2 v.ownBlock):z0x S w2 xs l :=
 h.to (Kept.grown hg (fun k hk => ⟨Nat.lt_of_lt_of_le (hS k hk) hw,fun e => by have h1:=(ho.lt k e.symm).1; have h2:=hS k hk; omega⟩)) (fun _ h => h)
theorem zgl {S:Nat → Prop} (v:Value) (ls:List (List RTerm)) (w:World) (h:z1r S w v ls) (hS:∀ k,S k → k < w.heap.size) (hn:ls.flatten.length ≤ 1000000000000) :
  Calls Tryz.prog 50 #[v] w fun e w' => ∃ v' xs,e = .returned v' ∧ w'.ownsRow w.heap.size 50 3 v' ls.flatten.length xs ∧ z0x S w' xs ls.flatten ∧ Ext w w':=by
 obtain ⟨j0,hj,jz0,jz1,jz2⟩:=info_parts Tryz.infoTerm
 have H:=hid h
 have hll:=h.len_le
 obtain ⟨A,c,rfl⟩:=h.form
 obtain ⟨n,hnn⟩:∃ n,n = ls.length:=⟨_,rfl⟩
 rw [← hnn] at H hll ⊢
 have HN:=hid hnn
 have HFL:=hid (zwj ls)
 clear h hnn
 go_enter Tryz.func50,Tryz.ntmps50
 go_wp2
 go_loop [3,11] (fun sz i => ∃ k s:Nat,k ≤ n ∧ i = .int .i64 k ∧ sz = .int .i64 s ∧ Hid (s = (ls.take k).flatten.length)) (fun _ i => n - (intOf i).toNat)
 case atStart => exact ⟨0,0,Nat.zero_le _,rfl,rfl,rfl⟩
 case round =>
  obtain ⟨k,s,hk,rfl,rfl,HSZ⟩:=hrel
  have hs:s ≤ 1000000000000:=by rw [HSZ.out]; exact Nat.le_trans (HFL.out k) hn
  by_cases hlt:k < n
  ·obtain ⟨p,hp⟩:=z01 (l:=ls) (j:=k) (by rw [← HN.out]; exact hlt)
   obtain ⟨bl,off,vp,rfl,-,hn1,hm1,hSb,h1,h2⟩:=H.out.cellAt hp
   have HP:=hid (zgk hp)
   obtain ⟨ap,cp,rfl⟩:=h2.form
   have hlp:=h2.len_le
   obtain ⟨np,hnp⟩:∃ m,m = p.length:=⟨_,rfl⟩
   rw [← hnp] at h1 hlp
   have hs2:s + np ≤ 1000000000000:=by
    have h3:=HFL.out (k + 1)
    rw [HP.out,List.length_append,← HSZ.out,← hnp] at h3
    exact Nat.le_trans h3 hn
   have HNP:=hid hnp
   clear h2 hp hnp
   go_wp2
   go_round
   case rel => exact ⟨k + 1,s + np,by omega,by go_num,by go_num,by show _ = _; rw [HP.out,List.length_append,HSZ.out,HNP.out]⟩
   case measure => simp only [intOf]; omega
  ·obtain rfl:k = n:=by omega
   have C:=hid (zla s w hs)
   go_wp2_with fail
   with_reducible refine C.out.mono ?_
   rintro e w1 ⟨v1,rfl,hown,hx1⟩
   have HW1:=hid hown
   have HX1:=hid hx1
   clear hown hx1
   go_wp2
   go_loopw [6,8,27] (fun o _ i wr => ∃ (j s:Nat) (xs:List Value),j ≤ k ∧ i = .int .i64 j ∧ Ext w wr ∧ Hid (s = (ls.take j).flatten.length) ∧ Hid (wr.ownsRow w.heap.size 50 3 o s xs) ∧ Hid (z0x S wr xs (ls.take j).flatten)) (fun _ _ i _ => k - (intOf i).toNat)
   case atStart => exact ⟨0,0,[],Nat.zero_le _,rfl,HX1.out,rfl,HW1.out,rfl⟩
   case round =>
    clear HSZ hs
    obtain ⟨j,s,xs,hj',rfl,hx,HSZ,HW,HY⟩:=hrel
    have hs:s ≤ 1000000000000:=by rw [HSZ.out]; exact Nat.le_trans (HFL.out j) hn
    have HX:=hid hx
    by_cases hlt:j < k
    ·obtain ⟨p,hp⟩:=z01 (l:=ls) (j:=j) (by rw [← HN.out]; exact hlt)
     obtain ⟨bl,off,vp,rfl,-,hn1,hm1,hSb,h1,h2⟩:=(H.out.ext hx hS).cellAt hp
     have HP:=hid (zgk hp)
     obtain ⟨ap,cp,rfl⟩:=h2.form
     obtain ⟨-,news,hc,hsrc⟩:=h2.src
     obtain ⟨np,hnp⟩:∃ m,m = p.length:=⟨_,rfl⟩
     rw [← hnp] at h1 hsrc
     have hs2:s + np ≤ 1000000000000:=by
      have h3:=HFL.out (j + 1)
      rw [HP.out,List.length_append,← HSZ.out,← hnp] at h3
      exact Nat.le_trans h3 hn
     have HNP:=hid hnp
     have HSRC:=hid hsrc
     have HCN:=hid hc
     clear h2 hp hnp hc hsrc hx
     go_wp2_with (at_builtin; refine z0u _ rfl (.tmp 31) (.tmp 32) 23 rfl w.heap.size 50 j0 (.agg #[.bool false,.slice none 0 0,.slice none 0 0]) 3 56 Tryz.underlying23 hj jz0 jz1 jz2 rfl (by decide) _ s xs rfl HW.out ap np cp news rfl HSRC.out (by unfold maxLen; omega) (by omega) HX.out.size ?_; intro v2 w2 hown hg _; have HW2:=hid hown; have HG2:=hid hg; clear hown hg)
     go_roundw
     case rel =>
      refine ⟨j + 1,s + np,xs ++ news,by omega,by go_num,z2r HX.out HW.out HG2.out,?_,HW2.out,?_⟩
      ·show _ = _; rw [HP.out,List.length_append,HSZ.out,HNP.out]
      ·show z0x _ _ _ _
       rw [HP.out]
       exact (z85 hS HX.out.size HY.out HW.out HG2.out).append (z85 hS HX.out.size HCN.out HW.out HG2.out)
     case measure => simp only [intOf]; omega
    ·obtain rfl:j = k:=by omega
     have HE:Hid (ls.take j = ls):=hid (List.take_of_length_le (by rw [← HN.out]; exact Nat.le_refl _))
     clear hx
     go_wp2
     go_ret
     have h1:=HW.out
     have h2:=HY.out
     have h3:=HSZ.out
     rw [HE.out] at h2 h3
     rw [h3] at h1
     exact ⟨_,xs,rfl,h1,h2,HX.out⟩
end
section
open Go.RowKit Go.Sort
abbrev zbx (a b:World) (B:Nat):Nat → Prop:=fun k => (a.heap.size ≤ k ∧ k < b.heap.size) ∧ k ≠ B
def toQ {S:Nat → Prop} {w:World} (q:List (TermIn S w)):PZ:=toP (q.map (·.t))
theorem z5h {S:Nat → Prop} (v:Value) (ts:List RTerm) (w:World) (L:Nat) (h:z06 S w v ts) (hS:∀ k,S k → k < w.heap.size) (hm:∀ t ∈ ts,mayM t.m = true) (hr:∀ t ∈ ts,t.c.mag.length ≤ L) (hL:L ≤ 10000000000) (hn:ts.length ≤ 1000000000000) :
  Calls Tryz.prog 49 #[v] w fun e w' => ∃ v',e = .returned v' ∧ z06 (New w w') w' v' (ofP (z1t (toP ts))) ∧ Ext w w':=by
 obtain ⟨j0,hj,jz0,jz1,jz2⟩:=info_parts Tryz.infoTerm
 have H:=hid h
 have HMAY:=hid hm
 have HR:=hid hr
 have HC:=hid (zi8 v ts w h hS hn)
 obtain ⟨a,cap,rfl⟩:=h.form
 clear h hm hr
 go_enter Tryz.func49,Tryz.ntmps49
 go_wp2_with fail
 with_reducible refine HC.out.mono ?_
 rintro e w1 ⟨v1,xs,rfl,hown,hcells,hx1⟩
 have HOWN:=hid hown
 have HX1:=hid hx1
 have HCE:=hid hcells
 obtain ⟨d,hd1,hd2⟩:=zi9 hcells HMAY.out
 clear hcells hx1
 rcases hown.2 with ⟨rfl,h0⟩ | ⟨g,cap',cur,rfl,hg,hgg,hnc,hcm,hsz,hcur⟩
 ·obtain rfl:ts = []:=List.length_eq_zero_iff.1 h0
  clear hown h0 hd1 hd2
  go_wp2_with fail
  with_reducible refine (zia _ _ _).mono ?_
  rintro e w2 ⟨rfl,rfl⟩
  go_wp2
  refine wp_loop_rounds 1 ?_
  rw [rounds_succ]
  go_wp2
  go_ret
  exact ⟨_,rfl,z06.nilv _ _ _ _ (by decide),HX1.out⟩
 ·obtain ⟨n,hnn⟩:∃ n,n = ts.length:=⟨_,rfl⟩
  rw [← hnn] at hown ⊢
  have hnd:n = d.length:=by rw [hnn,← hd1]; simp
  obtain ⟨hsa,hc1,hc2⟩:=zl9 hown hd2 hnd
  have hSg:∀ k,S k → k < w1.heap.size ∧ k ≠ g:=fun k hk => ⟨Nat.lt_of_lt_of_le (hS k hk) HX1.out.size,by have:=hS k hk; omega⟩
  have HSG:=hid hSg
  have hn':n ≤ 1000000000000:=by omega
  have C:=hid (zye (tc:=fun x:TermIn S w1 => x.c) (cf:=zsm) (le:=zef) (cap:=cap') d w1 (zeg hSg) zoo hnd hsa hc1 hn')
  have HD1:=hid hd1
  have HND:=hid hnd
  have HGW:Hid (w.heap.size ≤ g):=hid hg
  unfold maxLen at hc2
  have HNN:=hid hnn
  clear hown hd1 hd2 hnd hsa hSg hg hgg hnc hcm hsz hcur hnn
  go_wp2_with fail
  with_reducible refine C.out.mono ?_
  rintro e w2 ⟨rfl,hs2⟩
  have hk2:Kept S w w2:=(Kept.ext HX1.out hS).trans (Kept.grown hs2.grown (fun k hk => ⟨(HSG.out k hk).1,fun e => (HSG.out k hk).2 (Option.some.inj e)⟩))
  have hx2:Ext w w2:=z0n HX1.out hs2.grown (fun k hk => by
   have:g = k:=Option.some.inj hk
   have:=HGW.out
   omega)
  have HS2:=hid hs2
  have HX2:=hid hx2
  have HKS:Hid (∀ W,Ext w2 W → Kept S w1 W ∧ ∀ k,S k → k < W.heap.size):=hid (fun W hW =>
   ⟨Kept.grown (zgg hs2.grown hW) (fun k hk => ⟨(HSG.out k hk).1,fun e => (HSG.out k hk).2 (Option.some.inj e)⟩),fun k hk => Nat.lt_of_lt_of_le (hS k hk) (hx2.trans hW).size⟩)
  have hp:=zdd (le:=zef) d
  have hso:=zop (z3h (zoo (S:=S) (w:=w1)).total d)
  have hle:=z13 (le:=zef) d
  generalize z2j zef d = q at *
  have HP:=hid hp
  have HSO:=hid hso
  have HQN:Hid (n = q.length):=hid (by rw [hle]; exact HND.out)
  clear hp hso hle hs2 hk2 hx2
  go_wp2
  go_loopw [0,2,3,4] (fun l p _ _ wr => ∃ (q1 q2:List (TermIn S w1)) (A:Option Addr) (m cl k:Nat) (ys:List Value) (ps:PZ),Hid (q = q1 ++ q2) ∧ l = .slice A m cl ∧ Hid (m = q2.length) ∧ Hid (0 < m → A = some ⟨g,q1.length * 3,none⟩) ∧ m ≤ cl ∧ cl ≤ 9223372036854775807 ∧ Ext w2 wr ∧ Hid (wr.ownsRow w2.heap.size 50 3 p k ys) ∧ Hid (z0x (z60 w2 wr p) wr ys (ofP ps)) ∧ Hid (k = ps.length) ∧ Hid (∀ z,Coll (toQ q2) z → Coll (toQ q) (ps ++ z)) ∧ k ≤ q1.length) (fun l _ _ _ _ => z1i l)
  case atStart => exact ⟨[],q,_,n,cap',0,[],[],rfl,rfl,HQN.out,fun _ => by simp,hc1,by omega,Ext.refl _,World.ownsRow_nil _ _ _ _,rfl,rfl,fun z hz => by simpa using hz,Nat.zero_le _⟩
  case round =>
   obtain ⟨q1,q2,A,m,cl,k,ys,ps,HQ,rfl,HMQ,HA,hmc,hcl,hx,HW,HY,HKK,HCO,hkq⟩:=hrel
   have HX:=hid hx
   clear hx
   generalize wr = w4 at *
   cases q2 with
   | nil =>
    obtain rfl:m = 0:=HMQ.out
    have HF:Hid (ps = z1t (toP ts)):=hid (by
     have h1:=HCO.out [] .nil
     rw [List.append_nil] at h1
     refine h1.norm ?_ ?_ ?_
     ·intro u hu
      obtain ⟨t,ht,rfl⟩:=List.mem_map.1 hu
      obtain ⟨y,-,rfl⟩:=List.mem_map.1 ht
      exact y.may
     ·unfold toQ toP
      rw [List.pairwise_map]
      exact HSO.out
     ·rw [← HD1.out]
      exact (HP.out.map _).map _)
    go_wp2
    go_ret
    refine ⟨_,rfl,?_,HX2.out.trans HX.out⟩
    have hc:=HY.out
    rw [HF.out] at hc
    have ho:=HW.out
    rw [HKK.out,HF.out] at ho
    exact z6z (by rw [z7m]; exact ho) (hc.to (Kept.refl _ _) (fun _ h => ⟨Nat.le_trans HX2.out.size h.1.1,h.1.2⟩)) (fun k h1 h2 => ⟨Nat.le_trans HX2.out.size h1,h2⟩)
   | cons x r =>
    obtain ⟨m,rfl⟩:∃ m',m = m' + 1:=⟨m - 1,by have:=HMQ.out; simp at this; omega⟩
    obtain rfl:A = some ⟨g,q1.length * 3,none⟩:=HA.out (by omega)
    have HXS:=hid (HS2.out.later HX.out)
    have hq1:q[q1.length]? = some x:=by rw [HQ.out]; exact z71 _ _ _
    obtain ⟨⟨c0,c1,c2⟩,-⟩:=HXS.out.get3 hq1
    simp only [Nat.zero_add] at c0 c1 c2
    have HMR:Hid (m = r.length):=hid (by have:=HMQ.out; simpa using this)
    have HLX:Hid (∀ y ∈ q,y.t.c.mag.length ≤ L):=hid (fun y hy => by
     refine HR.out _ ?_
     rw [← HD1.out]
     exact List.mem_map_of_mem (HP.out.mem_iff.1 hy))
    have HXQ:Hid (x ∈ q):=hid (by rw [HQ.out]; simp)
    have CA:=hid (z6u (S:=S) (.agg #[.bool x.c.neg,.slice x.c.ma x.c.mn x.c.mc]) _ x.t.c ⟨false,[]⟩ w4 ⟨_,by rw [x.neg],x.hm.to (HKS.out w4 HX.out).1 (fun _ h => h)⟩ (ze4 _ _) (HKS.out w4 HX.out).2 (by have:=HLX.out x HXQ.out; omega) (by decide))
    clear hq1 HMQ HA
    go_wp2_with fail
    with_reducible refine CA.out.mono ?_
    rintro e w3 ⟨vc,rfl,⟨vm3,rfl,hu3⟩,hx3⟩
    rw [z9i,Int.add_zero] at hu3 ⊢
    obtain ⟨am,cm,rfl⟩:=hu3.form
    obtain ⟨z0,hz0⟩:∃ z,z = valI x.t.c:=⟨_,rfl⟩
    rw [← hz0] at hu3 ⊢
    have HX3:=hid hx3
    have HU3:=hid hu3
    have HZ0:=hid hz0
    have HBX:Hid (w4.heap.size ≤ w3.heap.size):=hid hx3.size
    clear hu3 hx3 hz0
    obtain ⟨ng0,hng0⟩:∃ b,b = (ofI z0).neg:=⟨_,rfl⟩
    obtain ⟨nl0,hnl0⟩:∃ b,b = (ofI z0).mag.length:=⟨_,rfl⟩
    rw [← hng0,← hnl0]
    rw [← hnl0] at HU3
    have HNG0:=hid hng0
    have HNL0:=hid hnl0
    clear hng0 hnl0
    have HU4:Hid (U32s (zbx w4 (w3.alloc (.cells #[.bool ng0,.slice am nl0 cm] 30)) w3.heap.size) (w3.alloc (.cells #[.bool ng0,.slice am nl0 cm] 30)) (.slice am nl0 cm) (ofI z0).mag):=hid (HU3.out.to (Kept.alloc (fun k hk => hk.2) _) (fun k hk => ⟨⟨hk.1,by rw [z02]; have:=hk.2; omega⟩,by have:=hk.2; omega⟩))
    have HX4:=hid (HX3.out.alloc (.cells #[.bool ng0,.slice am nl0 cm] 30))
    obtain ⟨k0,k1,k2,k3⟩:=new2 (Ext.refl (w3.alloc (.cells #[.bool ng0,.slice am nl0 cm] 30)))
    have HK4:=hid (And.intro k0 (And.intro k1 (And.intro k2 k3)))
    clear k0 k1 k2 k3
    go_wp2
    go_loopw [3] (fun nn wx => ∃ (r1 r2:List (TermIn S w1)) (cn:Nat) (z:Int) (ng:Bool) (am:Option Addr) (nl cm:Nat),Hid (r = r1 ++ r2) ∧ nn = .int .i64 cn ∧ Hid (cn = r1.length + 1) ∧ cn ≤ m + 1 ∧ Hid (∀ y ∈ r1,y.t.m = x.t.m) ∧ Hid (z = valI x.t.c + sumP (toQ r1)) ∧ Hid (ng = (ofI z).neg) ∧ Hid (nl = (ofI z).mag.length) ∧ Ext w4 wx ∧
     wx.cell? ⟨w3.heap.size,0,none⟩ = some (.bool ng) ∧ wx.cell? ⟨w3.heap.size,1,none⟩ = some (.slice am nl cm) ∧ wx.frozen? ⟨w3.heap.size,0,none⟩ = false ∧ wx.frozen? ⟨w3.heap.size,1,none⟩ = false ∧ Hid (U32s (zbx w4 wx w3.heap.size) wx (.slice am nl cm) (ofI z).mag)) (fun nn _ => m + 1 - (intOf nn).toNat)
    case atStart => exact ⟨[],r,1,z0,ng0,am,nl0,cm,rfl,rfl,rfl,by omega,fun y hy => by simp at hy,by show _ = _; rw [HZ0.out]; simp [toQ,toP,sumP],HNG0.out,HNL0.out,HX4.out,HK4.out.1,HK4.out.2.1,HK4.out.2.2.1,HK4.out.2.2.2,HU4.out⟩
    case round =>
     clear HU4 HX4 HK4 HNG0 HNL0 HZ0 HU3 CA
     obtain ⟨r1,r2,cn,z,ng,am,nl,cm,HR12,rfl,HCN,hrm,HSM,HZ,HNG,HNL,hx5,k0,k1,k2,k3,HU5⟩:=hrel
     have HX5:=hid hx5
     have HX25:=hid (HX.out.trans hx5)
     have d0:=hx5.cell c0
     have d1:=hx5.cell c1
     have d2:=hx5.cell c2
     have HKC:=hid (And.intro k0 (And.intro k1 (And.intro k2 k3)))
     have HD0:=hid (And.intro d0 (And.intro d1 d2))
     clear hx5
     cases r2 with
     | nil =>
      have hcm:cn = m + 1:=by rw [HCN.out,HMR.out,HR12.out]; simp
      have q1':decide ((cn:Int) < (m:Int) + 1) = false:=decide_eq_false (by omega)
      have HEX:Hid (∀ u ∈ (toQ ([]:List (TermIn S w1))).head?,u.2 ≠ x.t.m):=hid (fun u hu => by simp [toQ,toP] at hu)
      clear hcm
      go_wp2
      refine z03 (by kernel_rfl) (by kernel_rfl) ?_
      repeat (go_big_quiet_step (fail))
      refine wpQuiet_nil ?_
      intro W2 hW2
      have HW2:=hid hW2
      clear q1'
      have HBL:Hid (w3.heap.size < wr.heap.size):=hid (z0s k0)
      have hk0:=hW2.cell k0
      have hk1:=hW2.cell k1
      have HLZ:Hid ((ofI z).mag.length ≤ 40000000000000):=hid (by
       rw [z5m,HZ.out]
       refine Nat.le_trans (zi1 (k:=L) ?_ ?_ ?_) (by omega)
       ·exact z2y (z4j x.hm.lt) (HLX.out x HXQ.out)
       ·intro u hu
        obtain ⟨t,ht,rfl⟩:=List.mem_map.1 hu
        obtain ⟨y',hy',rfl⟩:=List.mem_map.1 ht
        exact z2y (z4j y'.hm.lt) (HLX.out y' (by rw [HQ.out,HR12.out]; simp [hy']))
       ·have h1:=HMR.out
        have h2:=HQN.out
        rw [HQ.out] at h2
        rw [HR12.out] at h1 h2
        have hB2:B32 ^ 2 = 18446744073709551616:=by decide
        rw [hB2]
        simp [toQ,toP] at h1 h2 ⊢
        omega)
      have HMC:Hid (m + 1 - cn = ([]:List (TermIn S w1)).length ∧ cn = r1.length + 1):=hid (by
       have h1:=HMR.out
       rw [HR12.out] at h1
       have h2:=HCN.out
       simp at h1 ⊢
       omega)
      have HCOL:Hid (∀ z',Coll (toQ ([]:List (TermIn S w1))) z' → Coll (toQ (x :: r)) (oneP z x.t.m ++ z')):=hid (fun z' hz' => by
       have h1:=Coll.group (valI x.t.c,x.t.m) (toQ r1) (toQ ([]:List (TermIn S w1))) z' (fun u hu => by
        obtain ⟨t,ht,rfl⟩:=List.mem_map.1 hu
        obtain ⟨y',hy',rfl⟩:=List.mem_map.1 ht
        exact HSM.out y' hy') HEX.out hz'
       rw [HZ.out,HR12.out]
       have e:toQ (x :: (r1 ++ ([]:List (TermIn S w1)))) = (valI x.t.c,x.t.m) :: toQ r1 ++ toQ ([]:List (TermIn S w1)):=by simp [toQ,toP]
       rw [e]
       exact h1)
      have CS:=hid (z1m (S:=zbx w4 wr w3.heap.size) (.agg #[.bool ng,.slice am nl cm]) (ofI z) W2 ⟨_,by rw [HNG.out],HU5.out.to (Kept.ext hW2 (fun k hk => hk.1.2)) (fun _ h => h)⟩ (fun k hk => Nat.lt_of_lt_of_le hk.1.2 hW2.size) (by have:=HLZ.out; omega))
      have HD2:=hid (And.intro (hW2.cell d0) (And.intro (hW2.cell d1) (hW2.cell d2)))
      have hsgv:z1l (valI (ofI z)) = z1l z:=by rw [z0p]
      clear k0 k1 k2 k3 d0 d1 d2 hW2
      go_wp2_with fail
      with_reducible refine CS.out.mono ?_
      rw [hsgv]
      rintro e w6 ⟨rfl,hx6⟩
      have HX6:=hid (HW2.out.trans hx6)
      obtain ⟨sg,hsg⟩:∃ s,s = z1l z:=⟨_,rfl⟩
      rw [← hsg]
      have hsr:-1 ≤ sg ∧ sg ≤ 1:=by rw [hsg]; unfold z1l; rcases z4p z 0 with h | h | h <;> omega
      obtain ⟨hsr1,hsr2⟩:=hsr
      have HSG2:=hid hsg
      have hk0':=hx6.cell hk0
      have hk1':=hx6.cell hk1
      have hcm1:cn ≤ m + 1:=hrm
      by_cases hz:z = 0
      ·have hb:(sg != 0) = false:=by rw [hsg,hz]; decide
       have HZZ:=hid hz
       clear hk0 hk1 hsgv hsg hz hx6
       go_wp2
       go_roundw
       case rel =>
        refine ⟨q1 ++ x :: r1,([]:List (TermIn S w1)),_,m + 1 - cn,cl - cn,k,ys,ps,?_,rfl,HMC.out.1,?_,by omega,by omega,HX.out.trans (HX5.out.trans HX6.out),z0z HW.out (HX5.out.trans HX6.out),z1g HY.out (HX5.out.trans HX6.out),HKK.out,fun z' hz' => ?_,?_⟩
        ·show _ = _; rw [HQ.out,HR12.out]; simp
        ·intro h
         have h2:=HMC.out.2
         try rw [if_neg (by omega)]
         congr 2
         simp
         omega
        ·have h1:=HCOL.out z' hz'
         rw [HZZ.out] at h1
         exact HCO.out z' h1
        ·simp; omega
       case measure => have h2:=HMC.out.2; simp only [z1i]; omega
      ·have hb:(sg != 0) = true:=by
        rw [hsg,bne_iff_ne]
        unfold z1l cmpI
        split <;> (try split) <;> omega
       clear hk0 hk1 hsgv hsg hx6
       have hx40:Ext w4 w6:=HX5.out.trans HX6.out
       have HX40:=hid hx40
       have HXR:=hid ((Ext.refl w6).drew)
       have HXD:=hid hx40.drew
       have S0:_ ∧ _ ∧ _:=And.intro (HXR.out.cell hk0') (And.intro (HXR.out.cell hk1') ((hx40.drew).cell c2))
       have HU7:Hid (∀ W,Ext w6 W → U32s (zbx w4 W w3.heap.size) W (.slice am nl cm) (ofI z).mag):=hid (fun W hW => HU5.out.to (Kept.ext (HX6.out.trans hW) (fun k hk => hk.1.2)) (fun k hk => ⟨⟨hk.1.1,Nat.lt_of_lt_of_le hk.1.2 (HX6.out.trans hW).size⟩,hk.2⟩))
       have CCL:=hid (z7f (S:=S) (.slice x.c.oa x.c.on x.c.oc) x.t.m w6.drew (x.ho.to (HKS.out _ (HX.out.trans HXD.out)).1 (fun _ h => h)) (HKS.out _ (HX.out.trans HXD.out)).2 (Nat.le_trans (z4g x.may) (by decide)))
       have HWR:=hid (z0z HW.out HXD.out)
       have HYR:=hid (z1g HY.out HXD.out)
       have HKC6:=hid (And.intro hk0' hk1')
       have HB3:Hid (k + 1 ≤ maxLen):=hid (by have h1:=HQN.out; rw [HQ.out] at h1; simp at h1; unfold maxLen; omega)
       have HB4:Hid ((k + 1) * 56 ≤ 140737488355328):=hid (by have h1:=HQN.out; rw [HQ.out] at h1; simp at h1; omega)
       have HXDD:=hid (HX.out.trans HXD.out)
       clear hx40 hk0' hk1'
       have HKB:Hid (some w3.heap.size ≠ u2.ownBlock):=hid (fun e => by have h1:=(HW.out.lt _ e.symm).2; have h2:=HBX.out; omega)
       have HKG:Hid (some g ≠ u2.ownBlock):=hid (fun e => by have h1:=(HW.out.lt _ e.symm).1; have h2:=HS2.out.old; have h3:=HS2.out.grown.size; omega)
       have hcn:0 < m + 1:=Nat.succ_pos m
       go_wp2_with fail
       go_region_held3 (fun W => W.cell? ⟨w3.heap.size,0,none⟩ = some (.bool ng) ∧ W.cell? ⟨w3.heap.size,1,none⟩ = some (.slice am nl cm) ∧ W.cell? ⟨g,q1.length * 3 + 2,none⟩ = some (.slice x.c.oa x.c.on x.c.oc)) (first | exact S0 | exact S7 | exact ⟨cell_old _ S7.1,cell_old _ S7.2.1,cell_old _ S7.2.2⟩ | exact S9)
        (first
         | (go_at_call 61; (with_reducible refine CCL.out.mono ?_); rintro e w7 ⟨v7,rfl,hp7,hx7⟩; have HX7:=hid hx7; have S7:_ ∧ _ ∧ _:=And.intro (HX7.out.cell S0.1) (And.intro (HX7.out.cell S0.2.1) (HX7.out.cell S0.2.2)); have HP7:=hid hp7; obtain ⟨a7,c7,rfl⟩:=hp7.form; obtain ⟨n7,hn7⟩:∃ n,n = x.t.m.length:=⟨_,rfl⟩; rw [← hn7]; rw [← hn7] at HP7; have HN7:=hid hn7
            have HW7:=hid (z0z (z0z HWR.out HX7.out) (Ext.alloc (Ext.refl w7) (.cells #[.bool ng,.slice am nl cm,.slice a7 n7 c7] 50))); have HY7:=hid (z1g (z1g HYR.out HX7.out) (Ext.alloc (Ext.refl w7) (.cells #[.bool ng,.slice am nl cm,.slice a7 n7 c7] 50))); have HSRC7:=hid (zbn w7 #[.bool ng,.slice am nl cm,.slice a7 n7 c7] 50 (z2f rfl rfl rfl) rfl); have HB5:=hid (Nat.le_trans (HXDD.out.trans HX7.out).size (World.grownBy_alloc w7 (.cells #[.bool ng,.slice am nl cm,.slice a7 n7 c7] 50) none).size); have HX27:=hid ((HXDD.out.trans HX7.out).alloc (.cells #[.bool ng,.slice am nl cm,.slice a7 n7 c7] 50)); have HC7:=hid (And.intro (cell_old (.cells #[.bool ng,.slice am nl cm,.slice a7 n7 c7] 50) S7.1) (And.intro (cell_old (.cells #[.bool ng,.slice am nl cm,.slice a7 n7 c7] 50) S7.2.1) (cell_old (.cells #[.bool ng,.slice am nl cm,.slice a7 n7 c7] 50) S7.2.2))); clear hx7 hp7 hn7)
         | (refine z2g rfl (.tmp 47) (.tmp 55) 23 rfl w2.heap.size 50 j0 (.agg #[.bool false,.slice none 0 0,.slice none 0 0]) 3 56 Tryz.underlying23 hj jz0 jz1 jz2 rfl (Nat.succ_pos _) _ k ys rfl HW7.out (some ⟨w7.heap.size,0,none⟩) 1 1 _ rfl HSRC7.out HB3.out HB4.out HB5.out ?_; intro v9 w9 hown hg hbk; have HW9:=hid hown; have HG9:=hid hg; have HBK:=hid hbk; have HX9:=hid (z2r HX27.out HW7.out hg); have S9:_ ∧ _ ∧ _:=And.intro (hg.cell HC7.out.1 HKB.out) (And.intro (hg.cell HC7.out.2.1 HKB.out) (hg.cell HC7.out.2.2 HKG.out)); clear hown hg hbk))
       all_goals
        go_wp2
        go_roundw
        case rel =>
         refine ⟨q1 ++ x :: r1,([]:List (TermIn S w1)),_,m + 1 - cn,cl - cn,k + 1,ys ++ (#[.bool ng,.slice am nl cm,.slice a7 n7 c7]:Array Value).toList,ps ++ [(z,x.t.m)],?_,rfl,HMC.out.1,?_,by omega,by omega,HX9.out,HW9.out,?_,?_,fun z' hz' => ?_,?_⟩
         ·show _ = _; rw [HQ.out,HR12.out]; simp
         ·intro h
          have h2:=HMC.out.2
          try rw [if_neg (by omega)]
          congr 2
          simp
          omega
         ·have hone:z0x (z60 w2 (w7.alloc (.cells #[.bool ng,.slice am nl cm,.slice a7 n7 c7] 50)) u2) (w7.alloc (.cells #[.bool ng,.slice am nl cm,.slice a7 n7 c7] 50)) (#[.bool ng,.slice am nl cm,.slice a7 n7 c7]:Array Value).toList [⟨ofI z,x.t.m⟩]:=by
           rw [HNG.out]
           refine z0x.single (t:=⟨ofI z,x.t.m⟩) ((HU7.out _ ((HXR.out.trans HX7.out).alloc _)).to (Kept.refl _ _) (fun j hj => ⟨⟨Nat.le_trans HX.out.size hj.1.1,hj.1.2⟩,fun e => ?_⟩)) ((HP7.out.ext (Ext.alloc (Ext.refl w7) _) (fun j hj => hj.2)).to (Kept.refl _ _) (fun j hj => ⟨⟨Nat.le_trans (HX.out.trans HX40.out).size hj.1,by rw [z02]; have:=hj.2; omega⟩,fun e => ?_⟩))
           ·have h1:=(HW.out.lt _ e.symm).2
            have h2:=hj.1.1
            omega
           ·have h1:=(HW.out.lt _ e.symm).2
            have h2:=hj.1
            have h3:=HX40.out.size
            simp at h2
            omega
          have hall:=HY7.out.append hone
          have e:ofP (ps ++ [(z,x.t.m)]) = ofP ps ++ [⟨ofI z,x.t.m⟩]:=by unfold ofP; rw [List.map_append]; rfl
          show z0x _ _ _ _
          rw [e]
          exact z47 hall HG9.out HBK.out (Nat.le_refl _)
         ·show _ = _; rw [HKK.out]; simp
         ·have h1:=HCO.out _ (HCOL.out z' hz')
          rw [show oneP z x.t.m = [(z,x.t.m)] by unfold oneP; rw [if_neg hz]] at h1
          simpa using h1
         ·simp; omega
        case measure => have h2:=HMC.out.2; simp only [z1i]; omega
     | cons y r2 =>
      have hcm:cn < m + 1:=by rw [HCN.out,HMR.out,HR12.out]; simp
      have q1':decide ((cn:Int) < (m:Int) + 1) = true:=decide_eq_true (by omega)
      have q2':(cn:Int) < (m:Int) + 1:=by omega
      have q3':(0:Int) ≤ (cn:Int):=by omega
      have hyq:q[q1.length + cn]? = some y:=by
       rw [HCN.out,HQ.out,HR12.out,show q1 ++ x :: (r1 ++ y :: r2) = (q1 ++ x :: r1) ++ y :: r2 by simp,show q1.length + (r1.length + 1) = (q1 ++ x :: r1).length by simp]
       exact z71 _ _ _
      have L0:=fun Y:Later wr => ((HS2.out.later (HX25.out.trans Y.h)).get3 hyq).1
      simp only [Nat.zero_add,Nat.add_mul] at L0
      have LX:=fun Y:Later wr => Y.h.cell d2
      have a2:=fun Y => (L0 Y).2.2
      have HYC:=hid (fun W (hW:Ext wr W) => L0 ⟨W,hW⟩)
      have hod:=z3v y.may x.may
      have CO:=hid (fun Y:Later wr => z7a (S:=S) (.slice y.c.oa y.c.on y.c.oc) (.slice x.c.oa x.c.on x.c.oc) y.t.m x.t.m Y.w' (y.ho.to (HKS.out _ (HX25.out.trans Y.h)).1 (fun _ h => h)) (x.ho.to (HKS.out _ (HX25.out.trans Y.h)).1 (fun _ h => h)) (HKS.out _ (HX25.out.trans Y.h)).2)
      obtain ⟨od1,od2⟩:=z6v y.t.m x.t.m
      have HOD:=hid hod
      generalize z4e y.t.m x.t.m = od at *
      clear hod L0 hyq
      by_cases h0:od = 0
      ·have h0b:(od == 0) = true:=by rw [beq_iff_eq]; exact h0
       have H0:=hid h0
       clear h0
       go_wp2
       refine z03 (by kernel_rfl) (by kernel_rfl) ?_
       repeat (go_big_quiet_step (first | (go_at_call 47; exact Later.done (CO.out _))))
       refine wpQuiet_nil ?_
       intro W2 hW2
       have HW2:=hid hW2
       have HBL:Hid (w3.heap.size < wr.heap.size):=hid (z0s k0)
       have HLZ:Hid ((ofI z).mag.length ≤ 40000000000000):=hid (by
        rw [z5m,HZ.out]
        refine Nat.le_trans (zi1 (k:=L) ?_ ?_ ?_) (by omega)
        ·exact z2y (z4j x.hm.lt) (HLX.out x HXQ.out)
        ·intro u hu
         obtain ⟨t,ht,rfl⟩:=List.mem_map.1 hu
         obtain ⟨y',hy',rfl⟩:=List.mem_map.1 ht
         exact z2y (z4j y'.hm.lt) (HLX.out y' (by rw [HQ.out,HR12.out]; simp [hy']))
        ·have h1:=HMR.out
         have h2:=HQN.out
         rw [HQ.out] at h2
         rw [HR12.out] at h1 h2
         have hB2:B32 ^ 2 = 18446744073709551616:=by decide
         rw [hB2]
         simp [toQ,toP] at h1 h2 ⊢
         omega)
       have CA2:=hid (fun W (hW:Ext W2 W) => z6u (S:=fun k => S k ∨ zbx w4 wr w3.heap.size k) (.agg #[.bool ng,.slice am nl cm]) (.agg #[.bool y.c.neg,.slice y.c.ma y.c.mn y.c.mc]) (ofI z) y.t.c W ⟨_,by rw [HNG.out],HU5.out.to (Kept.ext (HW2.out.trans hW) (fun k hk => hk.1.2)) (fun k hk => .inr hk)⟩ ⟨_,by rw [y.neg],y.hm.to (HKS.out _ (HX25.out.trans (HW2.out.trans hW))).1 (fun k hk => .inl hk)⟩ (fun k hk => by
        rcases hk with hk | hk
        ·exact (HKS.out _ (HX25.out.trans (HW2.out.trans hW))).2 k hk
        ·exact Nat.lt_of_lt_of_le hk.1.2 (HW2.out.trans hW).size) HLZ.out (by have:=HLX.out y (by rw [HQ.out,HR12.out]; simp); omega))
       have hd:=hW2.drew
       have s0:=hW2.cell k0
       have s1:=hW2.cell k1
       obtain ⟨s2,s3,-⟩:=HYC.out _ hW2
       have HFR:=hid (fun W (hW:Ext wr W) => And.intro (hW.cell k0) (And.intro (hW.cell k1) (And.intro (hW.free HBL.out k2) (hW.free HBL.out k3))))
       have HWD:=hid hd
       have HX20:=hid ((Ext.refl W2).drew)
       clear a2 LX k0 k1 k2 k3 d0 d1 d2 CO hW2 hd q1' q2' q3'
       have q2':(cn:Int) < (m:Int) + 1:=by omega
       have q3':(0:Int) ≤ (cn:Int):=by omega
       go_wp2_with fail
       go_region_with (first
         | (go_at_call 60; (with_reducible refine (CA2.out _ HX20.out).mono ?_); rintro e w5 ⟨v5,rfl,⟨vm5,rfl,hu5⟩,hx5⟩; have HX5':=hid (HWD.out.trans hx5); obtain ⟨e0,e1,e2,e3⟩:=HFR.out _ HX5'.out; rw [z0p] at hu5 ⊢; have HU6:=hid hu5; obtain ⟨am5,cm5,rfl⟩:=hu5.form; obtain ⟨ng5,hng5⟩:∃ b,b = (ofI (z + valI y.t.c)).neg:=⟨_,rfl⟩; obtain ⟨nl5,hnl5⟩:∃ b,b = (ofI (z + valI y.t.c)).mag.length:=⟨_,rfl⟩; rw [← hng5,← hnl5]; rw [← hnl5] at HU6; have HNG5:=hid hng5; have HNL5:=hid hnl5; have HE5:=hid (And.intro e0 (And.intro e1 (And.intro e2 e3))); have HX55:=hid hx5; clear hu5 hx5 hng5 hnl5))
       all_goals
        go_wp2
        go_roundw
        case rel =>
         refine ⟨r1 ++ [y],r2,cn + 1,z + valI y.t.c,ng5,am5,nl5,cm5,?_,by go_num,?_,by omega,?_,?_,HNG5.out,HNL5.out,HX5.out.trans ((Ext.refl wr).trans (HX5'.out)) |>.set2 HBX.out _ _,(z19 _ _ HE5.out.1 HE5.out.2.1).1,(z19 _ _ HE5.out.1 HE5.out.2.1).2,z16 (z16 HE5.out.2.2.1),z16 (z16 HE5.out.2.2.2),?_⟩
         ·show _ = _; rw [HR12.out]; simp
         ·show _ = _; rw [HCN.out]; simp
         ·intro u hu
          rcases List.mem_append.1 hu with hu | hu
          ·exact HSM.out u hu
          ·rw [List.mem_singleton.1 hu]
           have h1:=HOD.out
           rw [H0.out] at h1
           exact (z28 y.may x.may).1 h1.symm
         ·show _ = _
          rw [HZ.out,show toQ (r1 ++ [y]) = toQ r1 ++ [(valI y.t.c,y.t.m)] by simp [toQ,toP],znt]
          simp only
          omega
         ·refine hid (HU6.out.to (Kept.set2 (fun h => ?_) _ _) (fun k hk => ⟨⟨?_,?_⟩,?_⟩))
          ·have h1:=h.1
           have h2:=HW2.out.size
           have h3:=HBL.out
           simp at h1
           omega
          ·have h1:=hk.1
           have h2:=HW2.out.size
           have h3:=HX5.out.size
           simp at h1
           omega
          ·rw [z2q]; exact hk.2
          ·have h1:=hk.1
           have h2:=HW2.out.size
           have h3:=HBL.out
           simp at h1
           omega
        case measure => simp only [intOf]; omega
      ·have h0b:(od == 0) = false:=by rw [beq_eq_false_iff_ne]; exact h0
       have HEX:Hid (∀ u ∈ (toQ (y :: r2)).head?,u.2 ≠ x.t.m):=hid (fun u hu => by
        simp [toQ,toP] at hu
        subst hu
        intro e
        simp only at e
        have h1:=HOD.out
        rw [e,z3l _ x.may] at h1
        exact h0 h1)
       have H0:=hid h0
       clear h0
       go_wp2
       refine z03 (by kernel_rfl) (by kernel_rfl) ?_
       repeat (go_big_quiet_step (first | (go_at_call 47; exact Later.done (CO.out _))))
       refine wpQuiet_nil ?_
       intro W2 hW2
       have HW2:=hid hW2
       clear a2 LX CO q1' q2' q3'
       have HBL:Hid (w3.heap.size < wr.heap.size):=hid (z0s k0)
       have hk0:=hW2.cell k0
       have hk1:=hW2.cell k1
       have HLZ:Hid ((ofI z).mag.length ≤ 40000000000000):=hid (by
        rw [z5m,HZ.out]
        refine Nat.le_trans (zi1 (k:=L) ?_ ?_ ?_) (by omega)
        ·exact z2y (z4j x.hm.lt) (HLX.out x HXQ.out)
        ·intro u hu
         obtain ⟨t,ht,rfl⟩:=List.mem_map.1 hu
         obtain ⟨y',hy',rfl⟩:=List.mem_map.1 ht
         exact z2y (z4j y'.hm.lt) (HLX.out y' (by rw [HQ.out,HR12.out]; simp [hy']))
        ·have h1:=HMR.out
         have h2:=HQN.out
         rw [HQ.out] at h2
         rw [HR12.out] at h1 h2
         have hB2:B32 ^ 2 = 18446744073709551616:=by decide
         rw [hB2]
         simp [toQ,toP] at h1 h2 ⊢
         omega)
       have HMC:Hid (m + 1 - cn = (y :: r2).length ∧ cn = r1.length + 1):=hid (by
        have h1:=HMR.out
        rw [HR12.out] at h1
        have h2:=HCN.out
        simp at h1 ⊢
        omega)
       have HCOL:Hid (∀ z',Coll (toQ (y :: r2)) z' → Coll (toQ (x :: r)) (oneP z x.t.m ++ z')):=hid (fun z' hz' => by
        have h1:=Coll.group (valI x.t.c,x.t.m) (toQ r1) (toQ (y :: r2)) z' (fun u hu => by
         obtain ⟨t,ht,rfl⟩:=List.mem_map.1 hu
         obtain ⟨y',hy',rfl⟩:=List.mem_map.1 ht
         exact HSM.out y' hy') HEX.out hz'
        rw [HZ.out,HR12.out]
        have e:toQ (x :: (r1 ++ (y :: r2))) = (valI x.t.c,x.t.m) :: toQ r1 ++ toQ (y :: r2):=by simp [toQ,toP]
        rw [e]
        exact h1)
       have CS:=hid (z1m (S:=zbx w4 wr w3.heap.size) (.agg #[.bool ng,.slice am nl cm]) (ofI z) W2 ⟨_,by rw [HNG.out],HU5.out.to (Kept.ext hW2 (fun k hk => hk.1.2)) (fun _ h => h)⟩ (fun k hk => Nat.lt_of_lt_of_le hk.1.2 hW2.size) (by have:=HLZ.out; omega))
       have HD2:=hid (And.intro (hW2.cell d0) (And.intro (hW2.cell d1) (hW2.cell d2)))
       have hsgv:z1l (valI (ofI z)) = z1l z:=by rw [z0p]
       clear k0 k1 k2 k3 d0 d1 d2 hW2
       go_wp2_with fail
       with_reducible refine CS.out.mono ?_
       rw [hsgv]
       rintro e w6 ⟨rfl,hx6⟩
       have HX6:=hid (HW2.out.trans hx6)
       obtain ⟨sg,hsg⟩:∃ s,s = z1l z:=⟨_,rfl⟩
       rw [← hsg]
       have hsr:-1 ≤ sg ∧ sg ≤ 1:=by rw [hsg]; unfold z1l; rcases z4p z 0 with h | h | h <;> omega
       obtain ⟨hsr1,hsr2⟩:=hsr
       have HSG2:=hid hsg
       have hk0':=hx6.cell hk0
       have hk1':=hx6.cell hk1
       have hcm1:cn ≤ m + 1:=hrm
       by_cases hz:z = 0
       ·have hb:(sg != 0) = false:=by rw [hsg,hz]; decide
        have HZZ:=hid hz
        clear hk0 hk1 hsgv hsg hz hx6
        go_wp2
        go_roundw
        case rel =>
         refine ⟨q1 ++ x :: r1,(y :: r2),_,m + 1 - cn,cl - cn,k,ys,ps,?_,rfl,HMC.out.1,?_,by omega,by omega,HX.out.trans (HX5.out.trans HX6.out),z0z HW.out (HX5.out.trans HX6.out),z1g HY.out (HX5.out.trans HX6.out),HKK.out,fun z' hz' => ?_,?_⟩
         ·show _ = _; rw [HQ.out,HR12.out]; simp
         ·intro h
          have h2:=HMC.out.2
          try rw [if_neg (by omega)]
          congr 2
          simp
          omega
         ·have h1:=HCOL.out z' hz'
          rw [HZZ.out] at h1
          exact HCO.out z' h1
         ·simp; omega
        case measure => have h2:=HMC.out.2; simp only [z1i]; omega
       ·have hb:(sg != 0) = true:=by
         rw [hsg,bne_iff_ne]
         unfold z1l cmpI
         split <;> (try split) <;> omega
        clear hk0 hk1 hsgv hsg hx6
        have hx40:Ext w4 w6:=HX5.out.trans HX6.out
        have HX40:=hid hx40
        have HXR:=hid ((Ext.refl w6).drew)
        have HXD:=hid hx40.drew
        have S0:_ ∧ _ ∧ _:=And.intro (HXR.out.cell hk0') (And.intro (HXR.out.cell hk1') ((hx40.drew).cell c2))
        have HU7:Hid (∀ W,Ext w6 W → U32s (zbx w4 W w3.heap.size) W (.slice am nl cm) (ofI z).mag):=hid (fun W hW => HU5.out.to (Kept.ext (HX6.out.trans hW) (fun k hk => hk.1.2)) (fun k hk => ⟨⟨hk.1.1,Nat.lt_of_lt_of_le hk.1.2 (HX6.out.trans hW).size⟩,hk.2⟩))
        have CCL:=hid (z7f (S:=S) (.slice x.c.oa x.c.on x.c.oc) x.t.m w6.drew (x.ho.to (HKS.out _ (HX.out.trans HXD.out)).1 (fun _ h => h)) (HKS.out _ (HX.out.trans HXD.out)).2 (Nat.le_trans (z4g x.may) (by decide)))
        have HWR:=hid (z0z HW.out HXD.out)
        have HYR:=hid (z1g HY.out HXD.out)
        have HKC6:=hid (And.intro hk0' hk1')
        have HB3:Hid (k + 1 ≤ maxLen):=hid (by have h1:=HQN.out; rw [HQ.out] at h1; simp at h1; unfold maxLen; omega)
        have HB4:Hid ((k + 1) * 56 ≤ 140737488355328):=hid (by have h1:=HQN.out; rw [HQ.out] at h1; simp at h1; omega)
        have HXDD:=hid (HX.out.trans HXD.out)
        clear hx40 hk0' hk1'
        have HKB:Hid (some w3.heap.size ≠ u2.ownBlock):=hid (fun e => by have h1:=(HW.out.lt _ e.symm).2; have h2:=HBX.out; omega)
        have HKG:Hid (some g ≠ u2.ownBlock):=hid (fun e => by have h1:=(HW.out.lt _ e.symm).1; have h2:=HS2.out.old; have h3:=HS2.out.grown.size; omega)
        have hcn:0 < m + 1:=Nat.succ_pos m
        go_wp2_with fail
        go_region_held3 (fun W => W.cell? ⟨w3.heap.size,0,none⟩ = some (.bool ng) ∧ W.cell? ⟨w3.heap.size,1,none⟩ = some (.slice am nl cm) ∧ W.cell? ⟨g,q1.length * 3 + 2,none⟩ = some (.slice x.c.oa x.c.on x.c.oc)) (first | exact S0 | exact S7 | exact ⟨cell_old _ S7.1,cell_old _ S7.2.1,cell_old _ S7.2.2⟩ | exact S9)
         (first
          | (go_at_call 61; (with_reducible refine CCL.out.mono ?_); rintro e w7 ⟨v7,rfl,hp7,hx7⟩; have HX7:=hid hx7; have S7:_ ∧ _ ∧ _:=And.intro (HX7.out.cell S0.1) (And.intro (HX7.out.cell S0.2.1) (HX7.out.cell S0.2.2)); have HP7:=hid hp7; obtain ⟨a7,c7,rfl⟩:=hp7.form; obtain ⟨n7,hn7⟩:∃ n,n = x.t.m.length:=⟨_,rfl⟩; rw [← hn7]; rw [← hn7] at HP7; have HN7:=hid hn7
             have HW7:=hid (z0z (z0z HWR.out HX7.out) (Ext.alloc (Ext.refl w7) (.cells #[.bool ng,.slice am nl cm,.slice a7 n7 c7] 50))); have HY7:=hid (z1g (z1g HYR.out HX7.out) (Ext.alloc (Ext.refl w7) (.cells #[.bool ng,.slice am nl cm,.slice a7 n7 c7] 50))); have HSRC7:=hid (zbn w7 #[.bool ng,.slice am nl cm,.slice a7 n7 c7] 50 (z2f rfl rfl rfl) rfl); have HB5:=hid (Nat.le_trans (HXDD.out.trans HX7.out).size (World.grownBy_alloc w7 (.cells #[.bool ng,.slice am nl cm,.slice a7 n7 c7] 50) none).size); have HX27:=hid ((HXDD.out.trans HX7.out).alloc (.cells #[.bool ng,.slice am nl cm,.slice a7 n7 c7] 50)); have HC7:=hid (And.intro (cell_old (.cells #[.bool ng,.slice am nl cm,.slice a7 n7 c7] 50) S7.1) (And.intro (cell_old (.cells #[.bool ng,.slice am nl cm,.slice a7 n7 c7] 50) S7.2.1) (cell_old (.cells #[.bool ng,.slice am nl cm,.slice a7 n7 c7] 50) S7.2.2))); clear hx7 hp7 hn7)
          | (refine z2g rfl (.tmp 47) (.tmp 55) 23 rfl w2.heap.size 50 j0 (.agg #[.bool false,.slice none 0 0,.slice none 0 0]) 3 56 Tryz.underlying23 hj jz0 jz1 jz2 rfl (Nat.succ_pos _) _ k ys rfl HW7.out (some ⟨w7.heap.size,0,none⟩) 1 1 _ rfl HSRC7.out HB3.out HB4.out HB5.out ?_; intro v9 w9 hown hg hbk; have HW9:=hid hown; have HG9:=hid hg; have HBK:=hid hbk; have HX9:=hid (z2r HX27.out HW7.out hg); have S9:_ ∧ _ ∧ _:=And.intro (hg.cell HC7.out.1 HKB.out) (And.intro (hg.cell HC7.out.2.1 HKB.out) (hg.cell HC7.out.2.2 HKG.out)); clear hown hg hbk))
        all_goals
         go_wp2
         go_roundw
         case rel =>
          refine ⟨q1 ++ x :: r1,(y :: r2),_,m + 1 - cn,cl - cn,k + 1,ys ++ (#[.bool ng,.slice am nl cm,.slice a7 n7 c7]:Array Value).toList,ps ++ [(z,x.t.m)],?_,rfl,HMC.out.1,?_,by omega,by omega,HX9.out,HW9.out,?_,?_,fun z' hz' => ?_,?_⟩
          ·show _ = _; rw [HQ.out,HR12.out]; simp
          ·intro h
           have h2:=HMC.out.2
           try rw [if_neg (by omega)]
           congr 2
           simp
           omega
          ·have hone:z0x (z60 w2 (w7.alloc (.cells #[.bool ng,.slice am nl cm,.slice a7 n7 c7] 50)) u2) (w7.alloc (.cells #[.bool ng,.slice am nl cm,.slice a7 n7 c7] 50)) (#[.bool ng,.slice am nl cm,.slice a7 n7 c7]:Array Value).toList [⟨ofI z,x.t.m⟩]:=by
            rw [HNG.out]
            refine z0x.single (t:=⟨ofI z,x.t.m⟩) ((HU7.out _ ((HXR.out.trans HX7.out).alloc _)).to (Kept.refl _ _) (fun j hj => ⟨⟨Nat.le_trans HX.out.size hj.1.1,hj.1.2⟩,fun e => ?_⟩)) ((HP7.out.ext (Ext.alloc (Ext.refl w7) _) (fun j hj => hj.2)).to (Kept.refl _ _) (fun j hj => ⟨⟨Nat.le_trans (HX.out.trans HX40.out).size hj.1,by rw [z02]; have:=hj.2; omega⟩,fun e => ?_⟩))
            ·have h1:=(HW.out.lt _ e.symm).2
             have h2:=hj.1.1
             omega
            ·have h1:=(HW.out.lt _ e.symm).2
             have h2:=hj.1
             have h3:=HX40.out.size
             simp at h2
             omega
           have hall:=HY7.out.append hone
           have e:ofP (ps ++ [(z,x.t.m)]) = ofP ps ++ [⟨ofI z,x.t.m⟩]:=by unfold ofP; rw [List.map_append]; rfl
           show z0x _ _ _ _
           rw [e]
           exact z47 hall HG9.out HBK.out (Nat.le_refl _)
          ·show _ = _; rw [HKK.out]; simp
          ·have h1:=HCO.out _ (HCOL.out z' hz')
           rw [show oneP z x.t.m = [(z,x.t.m)] by unfold oneP; rw [if_neg hz]] at h1
           simpa using h1
          ·simp; omega
         case measure => have h2:=HMC.out.2; simp only [z1i]; omega
end
section
open Go.RowKit
theorem zjd {S:Nat → Prop} (v:Value) (ls:List (List RTerm)) (w:World) (h:z1r S w v ls) (hS:∀ k,S k → k < w.heap.size) (hr:z70 ls) :
  Calls Tryz.prog 48 #[v] w fun e w' => e = .returned (.bool (ls.all mayT)) ∧ Ext w w':=by
 have hnot:∀ (x:Bool) (w:World),(Op.unary .not (.bool x)).run Tryz.prog w = .ok (.bool (!x)) w:=fun _ _ => rfl
 have H:=hid h
 have HR:=hid hr
 have hll:=h.len_le
 obtain ⟨A,c,rfl⟩:=h.form
 obtain ⟨n,hnn⟩:∃ n,n = ls.length:=⟨_,rfl⟩
 rw [← hnn] at H hll ⊢
 have HN:=hid hnn
 clear h hr hnn
 go_enter Tryz.func48,Tryz.ntmps48
 go_wp2
 go_loopw [7] (fun i wr => ∃ k:Nat,k ≤ n ∧ i = .int .i64 k ∧ Ext w wr ∧ Hid ((ls.take k).all mayT = true)) (fun i _ => n - (intOf i).toNat)
 case atStart => exact ⟨0,Nat.zero_le _,rfl,Ext.refl _,rfl⟩
 case round =>
  obtain ⟨k,hk,rfl,hx,HA⟩:=hrel
  have HX:=hid hx
  by_cases hlt:k < n
  ·obtain ⟨p,hp⟩:=z01 (l:=ls) (j:=k) (by rw [← HN.out]; exact hlt)
   obtain ⟨bl,off,vp,rfl,-,hn1,hm1,hSb,h1,h2⟩:=(H.out.ext hx hS).cellAt hp
   have HP:=hid hp
   have HRP:=hid (HR.out p (List.mem_of_getElem? hp))
   have C:=hid (z4i (S:=S) vp p wr h2 (z08 hS hx) HRP.out)
   obtain ⟨ap,cp,rfl⟩:=h2.form
   clear h2 hp hx
   cases hm:mayT p with
   | true =>
    have HM:=hid hm
    rw [hm] at C
    clear hm
    go_wp2_with fail
    with_reducible refine C.out.mono ?_
    rintro e w2 ⟨rfl,hx2⟩
    have HX2:=hid (HX.out.trans hx2)
    clear hx2
    go_wp2
    go_roundw
    case rel => exact ⟨k + 1,by omega,by go_num,HX2.out,by show _ = _; rw [List.take_add_one,HP.out,List.all_append,HA.out]; simp [HM.out]⟩
    case measure => simp only [intOf]; omega
   | false =>
    have HM:=hid hm
    rw [hm] at C
    clear hm
    go_wp2_with fail
    with_reducible refine C.out.mono ?_
    rintro e w2 ⟨rfl,hx2⟩
    have HX2:=hid (HX.out.trans hx2)
    clear hx2
    go_wp2
    go_ret
    exact ⟨by rw [List.all_eq_false.2 ⟨p,List.mem_of_getElem? HP.out,by rw [HM.out]; exact Bool.false_ne_true⟩]; rfl,HX2.out⟩
  ·obtain rfl:k = n:=by omega
   have HE:Hid (ls.all mayT = true):=hid (by have:=HA.out; rwa [List.take_of_length_le (by rw [← HN.out]; exact Nat.le_refl _)] at this)
   clear hx
   go_wp2
   go_ret
   exact ⟨by rw [HE.out]; rfl,HX.out⟩
theorem zby {S:Nat → Prop} {w:World} {vp vq:Value} {ps qs:List RTerm} (hp:z06 S w vp ps) (hq:z06 S w vq qs) (hS:∀ k,S k → k < w.heap.size) (T:TypeId) :
  z1r (fun k => S k ∨ k = w.heap.size) (w.alloc (.cells #[vp,vq] T)) (.slice (some ⟨w.heap.size,0,none⟩) 2 2) [ps,qs]:=by
 have hk:Kept S w (w.alloc (.cells #[vp,vq] T)):=Kept.alloc hS _
 refine ⟨w.heap.size,0,⟨_,2,rfl,Nat.le_refl _,by decide,fun _ => rfl,fun _ => .inr rfl⟩,fun j p hj => ?_⟩
 have hj2:=z05 hj
 simp only [List.length_cons,List.length_nil] at hj2
 match j,hj with
 | 0,hj =>
  obtain rfl:ps = p:=by simpa using hj
  exact ⟨vp,z04 _ _ _ rfl rfl,hp.to hk (fun _ h => .inl h)⟩
 | 1,hj =>
  obtain rfl:qs = p:=by simpa using hj
  exact ⟨vq,z04 _ _ _ rfl rfl,hq.to hk (fun _ h => .inl h)⟩
 | j + 2,_ => omega
theorem zje {S:Nat → Prop} {w:World} (hS:∀ k,S k → k < w.heap.size) (o:Obj):∀ k,(S k ∨ k = w.heap.size) → k < (w.alloc o).heap.size:=fun k hk => by
 rw [z02]
 rcases hk with hk | rfl
 ·have:=hS k hk; omega
 ·omega
theorem z8z {ts:List RTerm} (h:mayT ts = true):∀ t ∈ ts,mayM t.m = true:=fun t ht => by
 have:=(z5c h).1 t ht
 simp only [z2e,Bool.and_eq_true] at this
 exact this.2
theorem zlb (p q:List RTerm):toP (p ++ q) = toP p ++ toP q:=List.map_append
def z90 (w:World) (p:PZ):Ending → World → Prop:=fun e w' => ∃ v',e = .returned (.tuple #[v',.int .i64 0]) ∧ z06 (New w w') w' v' (ofP p) ∧ Ext w w'
def zwk (w:World) (c:Int):Ending → World → Prop:=fun e w' => e = .returned (.tuple #[.slice none 0 0,.int .i64 c]) ∧ Ext w w'
theorem zsn {S:Nat → Prop} (vp vq:Value) (ps qs:List RTerm) (w:World) (L:Nat) (hp:z06 S w vp ps) (hq:z06 S w vq qs) (hS:∀ k,S k → k < w.heap.size) (hmp:mayT ps = true) (hmq:mayT qs = true)
  (hrp:∀ t ∈ ps,t.c.mag.length ≤ L) (hrq:∀ t ∈ qs,t.c.mag.length ≤ L) (hL:L ≤ 10000000000) (hn:ps.length + qs.length ≤ 1000000000000) :
  Calls Tryz.prog 21 #[vp,vq] w (z90 w (z1t (toP ps ++ toP qs))):=by
 have hnot:∀ (x:Bool) (w:World),(Op.unary .not (.bool x)).run Tryz.prog w = .ok (.bool (!x)) w:=fun _ _ => rfl
 have hx1:Ext w (w.alloc (.cells #[vp,vq] 23)):=Ext.alloc (Ext.refl w) _
 have CA:=zjd _ [ps,qs] (w.alloc (.cells #[vp,vq] 23)) (zby hp hq hS _) (zje hS _) (fun p hp => by
  simp only [List.mem_cons,List.not_mem_nil,or_false] at hp
  rcases hp with rfl | rfl
  ·exact fun t ht => Nat.le_trans (hrp t ht) (by omega)
  ·exact fun t ht => Nat.le_trans (hrq t ht) (by omega))
 rw [show [ps,qs].all mayT = true by simp [hmp,hmq]] at CA
 have HCA:=hid CA
 have HX1:=hid hx1
 have CC:=fun (W:World) (hW:Ext w W) => zgl _ [ps,qs] (W.alloc (.cells #[vp,vq] 23)) (zby (hp.ext hW hS) (hq.ext hW hS) (z08 hS hW) _) (zje (z08 hS hW) _) (by simpa using hn)
 have hfl:[ps,qs].flatten = ps ++ qs:=by simp
 rw [hfl] at CC
 have HCC:=hid CC
 have CL:=fun (W:World) (v:Value) (h:z06 (fun k => k < W.heap.size) W v (ps ++ qs)) => z5h v (ps ++ qs) W L h (fun _ h => h) (fun t ht => by
  rcases List.mem_append.1 ht with ht | ht
  ·exact z8z hmp t ht
  ·exact z8z hmq t ht) (fun t ht => by
  rcases List.mem_append.1 ht with ht | ht
  ·exact hrp t ht
  ·exact hrq t ht) hL (by simpa using hn)
 rw [zlb] at CL
 have HCL:=hid CL
 have HSS:=hid hS
 obtain ⟨ap,cp,rfl⟩:=hp.form
 obtain ⟨aq,cq,rfl⟩:=hq.form
 clear CA CC CL hp hq hx1 hmp hmq hrp hrq hfl hS
 unfold z90
 generalize z1t (toP ps ++ toP qs) = r at *
 go_enter Tryz.func21,Tryz.ntmps21
 go_wp2_with fail
 with_reducible refine HCA.out.mono ?_
 rintro e w1 ⟨rfl,hx⟩
 have HX:=hid (HX1.out.trans hx)
 clear hx
 go_wp2_with fail
 with_reducible refine (HCC.out _ HX.out).mono ?_
 rintro e w2 ⟨v2,xs,rfl,hown,hcells,hx2⟩
 have HT:Hid (z06 (fun k => k < w2.heap.size) w2 v2 (ps ++ qs)):=hid (z6z hown (hcells.to (Kept.refl _ _) (fun k hk => Nat.lt_of_lt_of_le (zje (z08 HSS.out HX.out) _ k hk) hx2.size)) (fun _ _ h => h))
 have HX2:=hid (HX.out.trans ((Ext.alloc (Ext.refl _) _).trans hx2))
 clear hown hcells hx2
 go_wp2_with fail
 with_reducible refine (HCL.out _ _ HT.out).mono ?_
 rintro e w3 ⟨v3,rfl,hp3,hx3⟩
 have HX3:=hid (HX2.out.trans hx3)
 have HP3:=hid (hp3.to (Kept.refl _ _) (New.mono HX2.out))
 clear hp3 hx3
 go_wp2
 go_ret2
 exact ⟨v3,rfl,HP3.out,HX3.out⟩
end
section
open Go.RowKit
def zgm (F:Mono → Option Mono) (p:PZ):PZ:=p.filterMap fun t => (F t.2).map fun m => (t.1,m)
def zbz (F:Mono → Option Mono) (ts:List RTerm):List RTerm:=ts.filterMap fun t => (F t.m).map fun m => ⟨ofI (valI t.c),m⟩
theorem zlc (F:Mono → Option Mono) (ts:List RTerm):zbz F ts = ofP (zgm F (toP ts)):=by
 unfold zbz zgm toP ofP
 induction ts with
 | nil => rfl
 | cons t r ih =>
  rw [List.filterMap_cons,List.map_cons,List.filterMap_cons]
  cases h:F t.m with
  | none => simpa using ih
  | some m => simpa using ih
theorem zld {F:Mono → Option Mono} {ts:List RTerm} {k:Nat} {t:RTerm} (h:ts[k]? = some t):zbz F (ts.take (k + 1)) = zbz F (ts.take k) ++ (match F t.m with | none => [] | some m => [⟨ofI (valI t.c),m⟩]):=by
 unfold zbz
 rw [List.take_add_one,h,List.filterMap_append]
 congr 1
 cases h2:F t.m <;> simp [h2]
theorem zoq (F:Mono → Option Mono) (ts:List RTerm):(zbz F ts).length ≤ ts.length:=List.length_filterMap_le _ _
abbrev zwl (w:World) (g:Nat) (lb:Array Value) (F:Mono → Option Mono):Prop :=
 ∀ (vt:Value) (t:RTerm) (W:World),Ext w W → z6x (Old W) W vt t → mayM t.m = true → Calls Tryz.prog g (#[vt] ++ lb) W fun e W' => ∃ vm,e = .returned (.tuple #[vm,.bool (F t.m).isSome]) ∧ Ext W W' ∧ ∀ m,F t.m = some m → Pows (Old W') W' vm m ∧ m.length ≤ 200
theorem zc0 {S:Nat → Prop} (g:Nat) (lb:Array Value) (eg:∀ args w,(callFunc g args).run Tryz.prog w = .ok (.enter g args) w) (F:Mono → Option Mono) (v:Value) (ts:List RTerm) (w:World) (h:z06 S w v ts) (hS:∀ k,S k → k < w.heap.size) (hr:z3r ts) (hn:ts.length ≤ 1000000000000)
  (hP:zwl w g lb F) :
  Calls Tryz.prog 26 #[v,.func (.func g) #[] lb] w fun e w' => ∃ v',e = .returned v' ∧ z06 (New w w') w' v' (ofP (zgm F (z0q ts))) ∧ Ext w w':=by
 have HP:=hid hP
 have HC:=hid (zd7 v ts w h hS hr)
 have HOKP:Hid (okT (z2v ts)):=hid (by unfold z2v; split; exact h.okT; exact fun t ht => by simp at ht)
 have HMP:Hid (∀ t ∈ z2v ts,mayM t.m = true ∧ t.c.mag.length ≤ 40000000000000):=hid (by
  unfold z2v
  split
  ·rename_i hm
   exact fun t ht => ⟨z8z hm t ht,hr t ht⟩
  ·exact fun t ht => by simp at ht)
 have HLP:Hid ((z2v ts).length ≤ 1000000000000):=hid (by unfold z2v; split; exact hn; simp)
 have HPP:Hid (ofP (zgm F (z0q ts)) = zbz F (z2v ts)):=hid (by rw [← z5v,zlc])
 obtain ⟨A,c,rfl⟩:=h.form
 rw [HPP.out]
 have HS:=hid hS
 clear h hP hr hn HPP hS
 obtain ⟨ps,hps⟩:∃ ps,ps = z2v ts:=⟨_,rfl⟩
 rw [← hps] at HC HOKP HMP HLP ⊢
 clear hps
 go_enter Tryz.func26,Tryz.ntmps26
 go_wp2_with fail
 with_reducible refine HC.out.mono ?_
 rintro e w1 ⟨v1,rfl,hp1,hx1⟩
 have HX1:=hid hx1
 have HT:=hid (hp1.to (S':=Old w1) (Kept.refl _ _) (fun k h => Nat.lt_of_lt_of_le (HS.out k h) hx1.size))
 have hll:=hp1.len_le
 obtain ⟨a1,c1,rfl⟩:=hp1.form
 obtain ⟨n,hnn⟩:∃ n,n = ps.length:=⟨_,rfl⟩
 rw [← hnn] at HT hll HLP ⊢
 have HN:=hid hnn
 clear hp1 hx1 hnn HC
 go_wp2
 go_loopw [4,12] (fun o i wr => ∃ (k m:Nat) (xs:List Value),k ≤ n ∧ i = .int .i64 k ∧ Ext w1 wr ∧ Hid (m = (zbz F (ps.take k)).length) ∧ Hid (wr.ownsRow w1.heap.size 50 3 o m xs) ∧ Hid (z0x (z60 w1 wr o) wr xs (zbz F (ps.take k)))) (fun _ i _ => n - (intOf i).toNat)
 case atStart => exact ⟨0,0,[],Nat.zero_le _,rfl,Ext.refl _,rfl,World.ownsRow_nil _ _ _ _,rfl⟩
 case round =>
  obtain ⟨k,m,xs,hk,rfl,hx,HM,HW,HY⟩:=hrel
  have HX:=hid hx
  by_cases hlt:k < n
  ·obtain ⟨t,ht⟩:=z01 (l:=ps) (j:=k) (by rw [← HN.out]; exact hlt)
   obtain ⟨b,off,vd,vo,rfl,-,hn1,hm1,hSb,h1,h2,h3,h4,h5⟩:=(HT.out.onS hx (fun _ h => h)).cellAt ht
   have HTK:=hid (zld (F:=F) ht)
   have HMT:=hid (HMP.out t (List.mem_of_getElem? ht))
   have hxa:Ext wr (wr.alloc (.cells #[.bool t.c.neg,vd,vo] 50)):=Ext.alloc (Ext.refl wr) _
   have HCG:=hid (HP.out (.agg #[.bool t.c.neg,vd,vo]) t _ (HX1.out.trans (hx.trans hxa)) ⟨vd,vo,rfl,h4.to (Kept.ext hxa (fun k h => Nat.lt_of_lt_of_le h hx.size)) (fun k h => Nat.lt_of_lt_of_le h (hx.trans hxa).size),h5.to (Kept.ext hxa (fun k h => Nat.lt_of_lt_of_le h hx.size)) (fun k h => Nat.lt_of_lt_of_le h (hx.trans hxa).size)⟩ HMT.out.1)
   have H4:=hid h4
   have HXA:=hid hxa
   obtain ⟨ad,cd,rfl⟩:=h4.form
   obtain ⟨ao,co,rfl⟩:=h5.form
   obtain ⟨ng,hng⟩:∃ b,b = t.c.neg:=⟨_,rfl⟩
   obtain ⟨nd,hnd⟩:∃ b,b = t.c.mag.length:=⟨_,rfl⟩
   obtain ⟨nm,hnm⟩:∃ b,b = t.m.length:=⟨_,rfl⟩
   have HNG:=hid hng
   rw [← hnd] at H4
   rw [← hng,← hnd,← hnm] at HCG HXA
   rw [← hng] at h1
   rw [← hnd] at h2
   rw [← hnm] at h3
   clear ht h4 h5 hx hxa hng hnd hnm
   cases hF:F t.m with
   | none =>
    simp only [hF] at HCG HTK
    have HCF:=hid HCG.out
    clear HCG hF
    go_wp2_with fail
    with_reducible refine HCF.out.mono ?_
    rintro e w2 ⟨vm,rfl,hx2,-⟩
    have HX2:=hid (HX.out.trans (HXA.out.trans hx2))
    have HXB:=hid (HXA.out.trans hx2)
    clear hx2
    go_wp2
    go_roundw
    case rel =>
     refine ⟨k + 1,m,xs,by omega,by go_num,HX2.out,?_,z0z HW.out HXB.out,?_⟩
     ·show _ = _; rw [HTK.out,List.append_nil]; exact HM.out
     ·show z0x _ _ _ _; rw [HTK.out,List.append_nil]; exact z1g HY.out HXB.out
    case measure => simp only [intOf]; omega
   | some mm =>
    simp only [hF] at HCG HTK
    have HCF:=hid HCG.out
    clear HCG hF
    go_wp2_with fail
    with_reducible refine HCF.out.mono ?_
    rintro e w2 ⟨vm,rfl,hx2,hvm⟩
    obtain ⟨hpm,hml⟩:=hvm mm rfl
    have e0:=hx2.new_cell (i:=0) rfl
    have e1:=hx2.new_cell (i:=1) rfl
    have HXB:=hid (HXA.out.trans hx2)
    have HX2:=hid (HX.out.trans (HXA.out.trans hx2))
    have HCA:=hid (z6u (S:=Old wr) (.agg #[.bool ng,.slice ad nd cd]) (.agg #[.bool false,.slice none 0 0]) t.c ⟨false,[]⟩ w2 ⟨_,by rw [HNG.out],(H4.out.to (S':=Old wr) (Kept.refl _ _) (fun k h => Nat.lt_of_lt_of_le h HX.out.size)).ext HXB.out (fun _ h => h)⟩ (ze4 _ _) (fun k h => Nat.lt_of_lt_of_le h HXB.out.size) HMT.out.2 (by decide))
    rw [z9i,Int.add_zero] at HCA
    have HCM:=hid (fun (W:World) (hW:Ext w2 W) => z7f vm mm W (hpm.ext hW (fun _ h => h)) (fun k h => Nat.lt_of_lt_of_le h hW.size) (Nat.le_trans hml (by decide)))
    have HKB:Hid (m ≤ 1000000000000):=hid (by
     rw [HM.out]
     have h3:=zoq F (ps.take k)
     have h4:=HLP.out
     rw [List.length_take] at h3
     omega)
    clear hvm hpm hml hx2
    go_wp2_with fail
    with_reducible refine HCA.out.mono ?_
    rintro e w3 ⟨v3,rfl,⟨vm3,rfl,hu3⟩,hx3⟩
    have HX3:=hid (HX2.out.trans hx3)
    have HX23:=hid hx3
    have HU3:=hid hu3
    obtain ⟨a3,c3,rfl⟩:=hu3.form
    clear hx3 hu3
    obtain ⟨n3,hn3⟩:∃ n,n = (ofI (valI t.c)).mag.length:=⟨_,rfl⟩
    obtain ⟨b3,hb3⟩:∃ n,n = (ofI (valI t.c)).neg:=⟨_,rfl⟩
    rw [← hn3,← hb3]
    rw [← hn3] at HU3
    have HB3:=hid hb3
    clear hn3 hb3
    go_wp2_with fail
    with_reducible refine (HCM.out w3 HX23.out).mono ?_
    rintro e w4 ⟨v4,rfl,hp4,hx4⟩
    have HX4:=hid (HX3.out.trans hx4)
    have HW4:=hid (z0z (z0z HW.out HXB.out) (HX23.out.trans hx4))
    have hone:z0x (New w2 w4) w4 [.bool b3,.slice a3 n3 c3,v4] [⟨ofI (valI t.c),mm⟩]:=by
     rw [HB3.out]
     exact z0x.single (t:=⟨ofI (valI t.c),mm⟩) (HU3.out.to (Kept.ext hx4 (fun _ h => h.2)) (fun k h => ⟨h.1,Nat.lt_of_lt_of_le h.2 hx4.size⟩)) (hp4.to (Kept.refl _ _) (fun k h => ⟨Nat.le_trans HX23.out.size h.1,h.2⟩))
    have HY4:=hid ((z1g HY.out (HXB.out.trans (HX23.out.trans hx4))).append (zbm (HX2.out.size) (z0z HW.out HXB.out) hone))
    obtain ⟨a4,c4,rfl⟩:=hp4.form
    obtain ⟨n4,hn4⟩:∃ n,n = mm.length:=⟨_,rfl⟩
    rw [← hn4] at HY4 ⊢
    clear hone hp4 hx4 hn4
    go_wp2_with (at_builtin; refine z1y _ rfl (.tmp 23) (.tmp 31) 23 rfl w1.heap.size 50 (.agg #[.bool false,.slice none 0 0,.slice none 0 0]) 3 56 Tryz.underlying23 Tryz.infoTerm rfl (by decide) _ m xs rfl HW4.out #[.bool b3,.slice a3 n3 c3,.slice a4 n4 c4] rfl (z2f rfl rfl rfl) rfl HKB.out (by decide) HX4.out.size ?_; intro v5 w5 hown hg hbk; have HW5:=hid hown; have HG5:=hid hg; have HBK:=hid hbk; clear hown hg hbk)
    go_roundw
    case rel =>
     refine ⟨k + 1,m + 1,xs ++ (#[.bool b3,.slice a3 n3 c3,.slice a4 n4 c4]:Array Value).toList,by omega,by go_num,z2r HX4.out HW4.out HG5.out,?_,HW5.out,?_⟩
     ·show _ = _; rw [HTK.out,List.length_append,← HM.out]; rfl
     ·show z0x _ _ _ _
      rw [HTK.out]
      exact z47 HY4.out HG5.out HBK.out (Nat.le_succ _)
    case measure => simp only [intOf]; omega
  ·obtain rfl:n = k:=by omega
   have hcells:z0x (z60 w1 wr u4) wr xs (zbz F ps):=by
    have:=HY.out
    rwa [List.take_of_length_le (by rw [← HN.out]; exact Nat.le_refl _)] at this
   have hm:m = (zbz F ps).length:=by
    have:=HM.out
    rwa [List.take_of_length_le (by rw [← HN.out]; exact Nat.le_refl _)] at this
   have HO:=hid (z6z (S:=New w wr) (by rw [← hm]; exact HW.out) (hcells.to (Kept.refl _ _) (fun _ h => ⟨Nat.le_trans HX1.out.size h.1.1,h.1.2⟩)) (fun k h1 h2 => ⟨Nat.le_trans HX1.out.size h1,h2⟩))
   clear hx hcells hm
   go_wp2
   all_goals
    go_ret
    exact ⟨_,rfl,HO.out,HX1.out.trans HX.out⟩
end
section
open Go.RowKit
theorem zeh {m:Mono} {k:Nat} {x:Int × Int} {v:Int} (h:m[k]? = some x):z0r (m.take (k + 1)) v = if x.1 = v then z0r (m.take k) v else z0r (m.take k) v ++ [x]:=by
 have:m.take (k + 1) = m.take k ++ [x]:=by rw [List.take_add_one,h]; rfl
 rw [this]
 unfold z0r
 rw [List.filter_append]
 split
 ·rename_i e
  simp [e]
 ·rename_i e
  simp [e]
theorem zab (m:Mono) (v:Int):(z0r m v).length ≤ m.length:=List.length_filter_le _ _
theorem zc1 {m:Mono} (h:inBounds m) (p:Int × Int → Bool):inBounds (m.filter p):=fun x hx => h x (List.mem_filter.1 hx).1
theorem zgn (x y:Int):∀ u ∈ (#[.int .i64 x,.int .i64 y]:Array Value).toList,u.oneCell' = true:=by
 intro u hu
 simp at hu
 rcases hu with rfl | rfl <;> rfl
theorem zgo {S:Nat → Prop} (v:Value) (m:Mono) (x:Int) (w:World) (h:Pows S w v m) (hS:∀ k,S k → k < w.heap.size) (_hx:-9223372036854775808 ≤ x ∧ x ≤ 9223372036854775807) :
  Calls Tryz.prog 63 #[v,.int .i64 x] w fun e w' => ∃ v',e = .returned v' ∧ Pows (New w w') w' v' (z0r (z1a m) x) ∧ Ext w w':=by
 have H:=hid h
 have HS:=hid hS
 obtain ⟨a,c,rfl⟩:=h.form
 clear h hS
 obtain ⟨m',hm'⟩:∃ m',m' = z1a m:=⟨_,rfl⟩
 rw [← hm']
 have HMM:=hid hm'
 clear hm'
 go_enter Tryz.func63,Tryz.ntmps63
 go_wp2_with fail
 refine (z9g _ m w H.out HS.out).mono ?_
 rintro e w1 ⟨v',rfl,hp,hx1⟩
 have HS1:=hid (z08 HS.out hx1)
 have HX1:=hid hx1
 have HML:Hid (m'.length ≤ 200):=hid (by rw [HMM.out]; exact zk2 m)
 rw [← HMM.out] at hp
 clear hx1 H
 have HIB:=hid hp.inBounds
 have HP:=hid hp
 have hml:=hp.len_le
 obtain ⟨a',c',rfl⟩:=hp.form
 obtain ⟨n,hn⟩:∃ n,n = m'.length:=⟨_,rfl⟩
 rw [← hn] at HP hml ⊢
 have HN:=hid hn
 clear hp hn
 go_wp2
 go_loopw [4,10] (fun o i wr => ∃ k:Nat,k ≤ n ∧ i = .int .i64 k ∧ Hid (wr.ownsRow w1.heap.size 52 2 o (z0r (m'.take k) x).length (z4b (z0r (m'.take k) x))) ∧ Ext w1 wr) (fun _ i _ => n - (intOf i).toNat)
 case atStart => exact ⟨0,Nat.zero_le _,rfl,hid (World.ownsRow_nil _ _ _ _),Ext.refl _⟩
 case round =>
  obtain ⟨k,hk,rfl,HO,hxr⟩:=hrel
  have HX:=hid hxr
  by_cases hlt:k < n
  ·obtain ⟨t,ht⟩:=z01 (l:=m') (j:=k) (by rw [← HN.out]; exact hlt)
   obtain ⟨b,off,cap',hv,hcap,hmax,⟨hb1,hb2⟩,h1,h2⟩:=(HP.out.to (Kept.ext hxr HS1.out) (fun _ h => h)).at ht
   obtain ⟨rfl,-,rfl⟩:a' = some ⟨b,off,none⟩ ∧ n = m'.length ∧ c' = cap':=by simpa using hv
   have HE:=hid (zeh (v:=x) ht)
   have HDL:Hid ((z0r (m'.take k) x).length ≤ 1000000000):=hid (Nat.le_trans (zab _ _) (by have:=HML.out; rw [List.length_take]; omega))
   have HBS:=hid (Nat.le_trans hxr.size (Nat.le_succ _))
   rw [← HN.out] at hcap
   clear hv ht hxr
   obtain ⟨u,z⟩:=t
   simp only at h1 h2 hb1 hb2 HE
   by_cases hu:u = x
   ·have hb:(u != x) = false:=by simpa using hu
    have HU:=hid hu
    clear hu
    go_wp2
    go_roundw
    case rel => exact ⟨k + 1,by omega,by go_num,hid (by rw [HE.out,if_pos HU.out]; exact HO.out.alloc _),HX.out.alloc _⟩
    case measure => simp only [intOf]; omega
   ·have hb:(u != x) = true:=by simpa using hu
    have HU:=hid hu
    clear hu
    have HOA:=hid (HO.out.alloc (.cells #[.int .i64 u,.int .i64 z] 52))
    have HBS2:Hid (w1.heap.size ≤ (wr.alloc (.cells #[.int .i64 u,.int .i64 z] 52)).heap.size):=hid (by rw [z02]; exact Nat.le_trans HX.out.size (Nat.le_succ _))
    go_wp2_with (at_builtin; refine z0l _ rfl (.tmp 18) (.tmp 20) 48 rfl w1.heap.size 52 (.agg #[.int .i64 0,.int .i64 0]) 2 16 Tryz.underlying48 Tryz.infoPower rfl (by decide) _ _ _ rfl HOA.out #[.int .i64 u,.int .i64 z] rfl (zgn _ _) (by rw [z02]; rfl) HDL.out (by decide) HBS2.out ?_; intro v1 w2 hown hg _; have HOW:=hid hown; have HG:=hid hg; clear hown hg)
    go_roundw
    case rel =>
     refine ⟨k + 1,by omega,by go_num,hid ?_,z2r (HX.out.alloc _) HOA.out HG.out⟩
     rw [HE.out,if_neg HU.out,z6o,List.length_append]
     have h1:=HOW.out
     simpa [z4b] using h1
    case measure => simp only [intOf]; omega
  ·obtain rfl:n = k:=by omega
   have HT:Hid (m'.take n = m'):=hid (by rw [HN.out]; exact List.take_length)
   clear hxr
   go_wp2
   all_goals
    go_ret
    have h1:=HO.out
    rw [HT.out] at h1
    have h2:=(z8p h1 (zc1 HIB.out _)).to (S':=New w wr) (Kept.refl _ _) (fun j hj => ⟨Nat.le_trans HX1.out.size hj.1,hj.2⟩)
    exact ⟨_,rfl,h2,HX1.out.trans HX.out⟩
end
section
theorem zcw {α β:Type} {f g:α → Option β} {l:List α} (h:∀ x ∈ l,f x = g x):l.filterMap f = l.filterMap g:=by
 induction l with
 | nil => rfl
 | cons x r ih => rw [List.filterMap_cons,List.filterMap_cons,h x (by simp),ih (fun y hy => h y (by simp [hy]))]
end
section
open Go.RowKit
theorem zor (w:World):zwl w 27 #[] some:=by
 rintro vt t W hW ⟨vm,vo,rfl,hu,hp⟩ hm
 have HP:=hid hp
 have hl:=z4g hm
 have HX:=hid (Ext.alloc (Ext.refl W) (.cells #[.bool t.c.neg,vm,vo] 50))
 obtain ⟨am,cm,rfl⟩:=hu.form
 obtain ⟨ao,co,rfl⟩:=hp.form
 have HL:=hid hl
 clear hu hp hW hm hl
 show Calls Tryz.prog 27 #[_] W _
 go_enter Tryz.func27,Tryz.ntmps27
 go_wp2
 all_goals
  go_ret2
  exact ⟨_,rfl,HX.out,fun m hm => by cases hm; exact ⟨HP.out.on HX.out,HL.out⟩⟩
def zos (v e:Int) (m:Mono):Option Mono:=if (1 ≤ v ∧ v ≤ 200) ∧ ex m v = e then some (z0r m v) else none
theorem zle (w:World) (v d:Int) (bv bd:Nat) (g:1 ≤ v ∧ v ≤ 200) (hv:z1v v) (hd:z1v d) (c1:w.cell? ⟨bv,0,none⟩ = some (.int .i64 v)) (c2:w.cell? ⟨bd,0,none⟩ = some (.int .i64 d)) :
  zwl w 62 #[.pointer (some ⟨bv,0,none⟩),.pointer (some ⟨bd,0,none⟩)] (zos v d):=by
 rintro vt t W hW ⟨vm,vo,rfl,hu,hp⟩ hm
 have hl:=z4g hm
 have HX:=hid (Ext.alloc (Ext.refl W) (.cells #[.bool t.c.neg,vm,vo] 50))
 have k1:=(hW.trans HX.out).drew.cell c1
 have k2:=(hW.trans HX.out).drew.cell c2
 have k3:(W.alloc (.cells #[.bool t.c.neg,vm,vo] 50)).drew.cell? ⟨W.heap.size,2,none⟩ = some vo:=z04 W #[.bool t.c.neg,vm,vo] 50 (b:=W.heap.size) (i:=2) (v:=vo) rfl rfl
 have S0:_ ∧ _ ∧ _:=And.intro k1 (And.intro k2 k3)
 have HS0:=hid S0
 have HC:=hid (fun (Y:World) (hY:Ext W Y) => zaz (S:=Old W) vo t.m v Y (hp.ext hY (fun _ h => h)) (fun _ h => Nat.lt_of_lt_of_le h hY.size) hv)
 have HD:=hid (fun (Y:World) (hY:Ext W Y) => zgo (S:=Old W) vo t.m v Y (hp.ext hY (fun _ h => h)) (fun _ h => Nat.lt_of_lt_of_le h hY.size) hv)
 rw [z4r hm] at HC HD
 have hex:=z2t hm v
 have HWL:Hid ((z0r t.m v).length ≤ 200):=hid (Nat.le_trans (zab _ _) hl)
 obtain ⟨am,cm,rfl⟩:=hu.form
 obtain ⟨ao,co,rfl⟩:=hp.form
 have HX0:=hid HX.out.drew
 obtain ⟨hd1,hd2⟩:=hd
 obtain ⟨hv1,hv2⟩:=hv
 unfold zos
 obtain ⟨x,hx⟩:∃ x,x = ex t.m v:=⟨_,rfl⟩
 rw [← hx] at hex HC ⊢
 obtain ⟨mw,hmw⟩:∃ mw,mw = z0r t.m v:=⟨_,rfl⟩
 rw [← hmw] at HD HWL ⊢
 clear hu hp hW hm hl hx hmw k1 k2 k3 c1 c2 S0
 show Calls Tryz.prog 62 #[_,_,_] W _
 have hq:decide (v ≤ 200) = true:=decide_eq_true (by omega)
 have hq2:decide (1 ≤ v) = true:=decide_eq_true (by omega)
 by_cases hxd:x = d
 ·have hq3:(x == d) = true:=by rw [beq_iff_eq]; exact hxd
  rw [if_pos ⟨g,hxd⟩]
  have HXD:=hid hxd
  clear hxd
  go_enter Tryz.func62,Tryz.ntmps62
  go_wp2
  have S0:=HS0.out
  go_region_held3 (fun Y => Y.cell? ⟨bv,0,none⟩ = some (.int .i64 v) ∧ Y.cell? ⟨bd,0,none⟩ = some (.int .i64 d) ∧ Y.cell? ⟨W.heap.size,2,none⟩ = some (.slice ao t.m.length co)) (first | exact S0 | exact S1 | exact S2)
   (first
    | (go_at_call 63; refine (HD.out _ HX0.out).mono ?_
       rintro e w1 ⟨v1,rfl,hp1,hx1⟩; have HX1:=hid (HX0.out.trans hx1); have HP1:=hid (hp1.to (S':=Old w1) (Kept.refl _ _) New.lt); have qf:=hp1.form; obtain ⟨a1,c1,rfl⟩:=qf; have S1:_ ∧ _ ∧ _:=And.intro (hx1.cell HS0.out.1) (And.intro (hx1.cell HS0.out.2.1) (hx1.cell HS0.out.2.2)); have HS1:=hid S1; clear hp1 hx1)
    | (go_at_call 64; refine (HC.out _ HX1.out).mono ?_
       rintro e w2 ⟨rfl,hx2⟩; have HX2:=hid (HX1.out.trans hx2); have HP2:=hid (HP1.out.on hx2); have S2:_ ∧ _ ∧ _:=And.intro (hx2.cell HS1.out.1) (And.intro (hx2.cell HS1.out.2.1) (hx2.cell HS1.out.2.2)); clear hx2))
  all_goals
   go_wp2
   all_goals
    go_ret2
    exact ⟨_,rfl,HX2.out,fun m hm => by cases hm; exact ⟨HP2.out,HWL.out⟩⟩
 ·have hq3:(x == d) = false:=by rw [beq_eq_false_iff_ne]; exact hxd
  rw [if_neg (fun h => hxd h.2)]
  have HXD:=hid hxd
  clear hxd
  go_enter Tryz.func62,Tryz.ntmps62
  go_wp2
  have S0:=HS0.out
  go_region_held3 (fun Y => Y.cell? ⟨bv,0,none⟩ = some (.int .i64 v) ∧ Y.cell? ⟨bd,0,none⟩ = some (.int .i64 d) ∧ Y.cell? ⟨W.heap.size,2,none⟩ = some (.slice ao t.m.length co)) (first | exact S0 | exact S1 | exact S2)
   (first
    | (go_at_call 63; refine (HD.out _ HX0.out).mono ?_
       rintro e w1 ⟨v1,rfl,hp1,hx1⟩; have HX1:=hid (HX0.out.trans hx1); have HP1:=hid (hp1.to (S':=Old w1) (Kept.refl _ _) New.lt); have qf:=hp1.form; obtain ⟨a1,c1,rfl⟩:=qf; have S1:_ ∧ _ ∧ _:=And.intro (hx1.cell HS0.out.1) (And.intro (hx1.cell HS0.out.2.1) (hx1.cell HS0.out.2.2)); have HS1:=hid S1; clear hp1 hx1)
    | (go_at_call 64; refine (HC.out _ HX1.out).mono ?_
       rintro e w2 ⟨rfl,hx2⟩; have HX2:=hid (HX1.out.trans hx2); have S2:_ ∧ _ ∧ _:=And.intro (hx2.cell HS1.out.1) (And.intro (hx2.cell HS1.out.2.1) (hx2.cell HS1.out.2.2)); clear hx2))
  all_goals
   go_wp2
   all_goals
    go_ret2
    exact ⟨_,rfl,HX2.out,fun m hm => by cases hm⟩
theorem zot {p:PZ} {v:Int} (hv:1 ≤ v ∧ v ≤ 200) (e:Int):zgm (zos v e) p = z3b p v e:=by
 unfold zgm z3b
 refine zcw (fun t _ => ?_)
 unfold zos zbu
 by_cases h:ex t.2 v = e
 ·rw [if_pos ⟨hv,h⟩,if_pos h]; rfl
 ·rw [if_neg (fun g => h g.2),if_neg h]; rfl
theorem zso (p:PZ):zgm some p = p:=by
 unfold zgm
 induction p with
 | nil => rfl
 | cons t r ih => rw [List.filterMap_cons]; exact congrArg (t :: ·) ih
theorem z6l {S:Nat → Prop} (v:Value) (ts:List RTerm) (x d:Int) (w:World) (h:z06 S w v ts) (hS:∀ k,S k → k < w.heap.size) (hr:z3r ts) (hn:ts.length ≤ 1000000000000) (hx:1 ≤ x ∧ x ≤ 200) (hd:z1v d) :
  Calls Tryz.prog 28 #[v,.int .i64 x,.int .i64 d] w fun e w' => ∃ v',e = .returned v' ∧ z06 (New w w') w' v' (ofP (z3b (z0q ts) x d)) ∧ Ext w w':=by
 have hmf:∀ (fn:Fn) (first cap:Array Value) (w:World),(Instr.makeFunc fn first cap).run Tryz.prog w = .ok (.func fn first cap) w:=fun _ _ _ _ => rfl
 have hi:z1v x:=by unfold z1v; omega
 have hK:Ext w ((w.alloc (.cells #[.int .i64 x] 3)).alloc (.cells #[.int .i64 d] 3)):=(Ext.alloc (Ext.refl w) _).alloc _
 have c1:((w.alloc (.cells #[.int .i64 x] 3)).alloc (.cells #[.int .i64 d] 3)).cell? ⟨w.heap.size,0,none⟩ = some (.int .i64 x):=cell_old _ (z04 _ _ _ rfl rfl)
 have c2:((w.alloc (.cells #[.int .i64 x] 3)).alloc (.cells #[.int .i64 d] 3)).cell? ⟨w.heap.size + 1,0,none⟩ = some (.int .i64 d):=z04 _ _ _ (by rw [z02]) rfl
 have HC:=hid (zc0 (S:=S) 62 #[.pointer (some ⟨w.heap.size,0,none⟩),.pointer (some ⟨w.heap.size + 1,0,none⟩)] (enters_of Tryz.func62 (by kernel_rfl) rfl) (zos x d) v ts _ (h.ext hK hS) (z08 hS hK) hr hn (zle _ x d _ _ hx hi hd c1 c2))
 rw [zot hx] at HC
 have HK:=hid hK
 obtain ⟨A,c,rfl⟩:=h.form
 clear h hS hr hn hx hd hK c1 c2 hi
 go_enter Tryz.func28,Tryz.ntmps28
 go_wp2_with fail
 with_reducible refine HC.out.mono ?_
 rintro e w1 ⟨v1,rfl,hp1,hx1⟩
 have HP1:=hid (hp1.to (S':=New w w1) (Kept.refl _ _) (fun k h => ⟨Nat.le_trans HK.out.size h.1,h.2⟩))
 have HX1:=hid (HK.out.trans hx1)
 clear hp1 hx1
 go_wp2
 all_goals
  go_ret
  exact ⟨_,rfl,HP1.out,HX1.out⟩
theorem zgp {S:Nat → Prop} (v:Value) (ts:List RTerm) (w:World) (h:z06 S w v ts) (hS:∀ k,S k → k < w.heap.size) (hr:z3r ts) (hn:ts.length ≤ 1000000000000) :
  Calls Tryz.prog 9 #[v] w fun e w' => ∃ v',e = .returned v' ∧ z06 (New w w') w' v' (ofP (z1w (z0q ts))) ∧ Ext w w':=by
 have HC:=hid (z5x v ts w h hS hr)
 have hlr:=z66 (z3e ts)
 have hdr:=fun x => z18 (z3e ts).may x
 have HP:=hid (fun (W:World) (hW:Ext w W) => zc0 (S:=S) 27 #[] (enters_of Tryz.func27 (by kernel_rfl) rfl) some v ts W (h.ext hW hS) (z08 hS hW) hr hn (zor W))
 have HD:=hid (fun (W:World) (hW:Ext w W) => zba (S:=S) v ts (z0t (z0q ts)) W (h.ext hW hS) (z08 hS hW) hr (by omega))
 have HQ:=hid (fun (h0:1 ≤ z0t (z0q ts)) (W:World) (hW:Ext w W) => z6l (S:=S) v ts (z0t (z0q ts)) (degP (z0q ts) (z0t (z0q ts))) W (h.ext hW hS) (z08 hS hW) hr hn ⟨h0,hlr.2⟩ (by have:=hdr (z0t (z0q ts)); unfold z1v; omega))
 simp only [zso] at HP
 have HI:Hid (z1w (z0q ts) = if z0t (z0q ts) = 0 then z0q ts else z3b (z0q ts) (z0t (z0q ts)) (degP (z0q ts) (z0t (z0q ts)))):=hid rfl
 obtain ⟨A,c,rfl⟩:=h.form
 clear h hS hr hn hdr
 rw [HI.out]
 clear HI
 obtain ⟨p,hp⟩:∃ p,p = z0q ts:=⟨_,rfl⟩
 rw [← hp] at HC HP HD HQ hlr ⊢
 clear hp
 generalize degP p (z0t p) = d at *
 generalize z0t p = x at *
 by_cases h0:x = 0
 ·subst h0
  rw [if_pos rfl]
  go_enter Tryz.func9,Tryz.ntmps9
  go_wp2_with fail
  with_reducible refine HC.out.mono ?_
  rintro e w1 ⟨rfl,hx1⟩
  have HX1:=hid hx1
  clear hx1
  go_wp2_with fail
  with_reducible refine (HP.out _ HX1.out).mono ?_
  rintro e w2 ⟨v2,rfl,hp2,hx2⟩
  have HP2:=hid (hp2.to (S':=New w w2) (Kept.refl _ _) (fun k h => ⟨Nat.le_trans HX1.out.size h.1,h.2⟩))
  have HX2:=hid (HX1.out.trans hx2)
  clear hp2 hx2
  go_wp2
  all_goals
   go_ret
   exact ⟨_,rfl,HP2.out,HX2.out⟩
 ·have q0:(x == 0) = false:=by rw [beq_eq_false_iff_ne]; exact h0
  rw [if_neg h0]
  have HQ1:=hid (HQ.out (by omega))
  clear h0
  go_enter Tryz.func9,Tryz.ntmps9
  go_wp2_with fail
  with_reducible refine HC.out.mono ?_
  rintro e w1 ⟨rfl,hx1⟩
  have HX1:=hid hx1
  clear hx1
  go_wp2_with fail
  with_reducible refine (HD.out _ HX1.out).mono ?_
  rintro e w2 ⟨rfl,hx2⟩
  have HX2:=hid (HX1.out.trans hx2)
  clear hx2
  go_wp2_with fail
  with_reducible refine (HQ1.out _ HX2.out).mono ?_
  rintro e w3 ⟨v3,rfl,hp3,hx3⟩
  have HP3:=hid (hp3.to (S':=New w w3) (Kept.refl _ _) (fun k h => ⟨Nat.le_trans HX2.out.size h.1,h.2⟩))
  have HX3:=hid (HX2.out.trans hx3)
  clear hp3 hx3
  go_wp2
  all_goals
   go_ret
   exact ⟨_,rfl,HP3.out,HX3.out⟩
end
section
open Go.RowKit
end
section
open Go.RowKit
theorem zgq (x y:Int) (w:World) (hs:-9223372036854775808 ≤ x + y ∧ x + y ≤ 9223372036854775807) :
  Calls Tryz.prog 129 #[.int .i64 x,.int .i64 y] w fun e w' => e = .returned (.int .i64 (x + y)) ∧ w' = w:=by
 obtain ⟨h1,h2⟩:=hs
 go_enter Tryz.func129,Tryz.ntmps129
 go_wp2
 all_goals
  go_ret
  exact ⟨rfl,rfl⟩
theorem zwm (w:World) (cs:Array Value) (T:TypeId) {b i:Nat} (hb:b = w.heap.size):(w.alloc (.cells cs T)).frozen? ⟨b,i,none⟩ = false:=by
 subst hb
 exact z56 w cs T
theorem zwn (z x y:Int) (bf bm:Nat) (W:World) (hs:-9223372036854775808 ≤ x + y ∧ x + y ≤ 9223372036854775807) (hle:x + y ≤ 0)
  (cf:W.cell? ⟨bf,0,none⟩ = some (.func (.func 129) #[] #[])) :
  Calls Tryz.prog 143 #[.int .i64 z,.int .i64 x,.int .i64 y,.pointer (some ⟨bf,0,none⟩),.pointer (some ⟨bm,0,none⟩)] W fun e w' => e = .returned (.tuple #[]) ∧ w' = W:=by
 have HT:=hid (zgq x y W hs)
 generalize x + y = s at *
 obtain ⟨h1,h2⟩:=hs
 go_enter Tryz.func143,Tryz.ntmps143
 go_wp2_with fail
 with_reducible refine HT.out.mono ?_
 rintro e w' ⟨rfl,rfl⟩
 go_wp2
 all_goals
  go_end0
  exact ⟨rfl,rfl⟩
theorem zsp (z x y:Int) (bf bm:Nat) (v:Value) (n base:Nat) (xs:List Value) (W:World) (hs:-9223372036854775808 ≤ x + y ∧ x + y ≤ 9223372036854775807) (hlt:0 < x + y)
  (cf:W.cell? ⟨bf,0,none⟩ = some (.func (.func 129) #[] #[])) (cm:W.cell? ⟨bm,0,none⟩ = some v) (hf:W.frozen? ⟨bm,0,none⟩ = false) (hbm:bm < base)
  (hown:W.ownsRow base 52 2 v n xs) (hbase:base ≤ W.heap.size) (hn:n ≤ 1000000000) :
  Calls Tryz.prog 143 #[.int .i64 z,.int .i64 x,.int .i64 y,.pointer (some ⟨bf,0,none⟩),.pointer (some ⟨bm,0,none⟩)] W fun e w' => e = .returned (.tuple #[]) ∧
   ∃ v' w2,w' = w2.setCell ⟨bm,0,none⟩ v' ∧ w2.ownsRow base 52 2 v' (n + 1) (xs ++ [.int .i64 z,.int .i64 (x + y)]) ∧ W.grownBy w2 v.ownBlock:=by
 have HT:=hid (zgq x y W hs)
 generalize x + y = s at *
 obtain ⟨h1,h2⟩:=hs
 have HO:=hid hown
 have HN:=hid hn
 have HB:=hid hbase
 have HL:Hid (bm < W.heap.size ∧ v.ownBlock ≠ some bm):=hid ⟨z0s cm,fun e => by have:=(hown.lt bm e).1; omega⟩
 have HC:=hid (And.intro cm hf)
 clear hown hn hbase hbm
 go_enter Tryz.func143,Tryz.ntmps143
 go_wp2_with fail
 with_reducible refine HT.out.mono ?_
 rintro e w' ⟨rfl,rfl⟩
 go_wp2_with (at_builtin; refine z0l _ rfl (.tmp 15) (.tmp 19) 48 rfl base 52 (.agg #[.int .i64 0,.int .i64 0]) 2 16 Tryz.underlying48 Tryz.infoPower rfl (by decide) v n xs rfl HO.out #[.int .i64 z,.int .i64 s] rfl (zgn _ _) rfl HN.out (by decide) HB.out ?_; intro v1 w2 hown hg _; have q:=Go.Joins.ownsRow_form hown (Nat.succ_pos _); obtain ⟨bg,cg,rfl⟩:=q; have HOW:=hid hown; have HG:=hid hg; have g1:=(hg.block bm HL.out.1 (fun e => HL.out.2 e.symm)); have c1:w2.cell? ⟨bm,0,none⟩ = some v:=(World.cell?_of_block (a:=⟨bm,0,none⟩) g1).trans HC.out.1; have c2:w2.frozen? ⟨bm,0,none⟩ = false:=(World.frozen?_of_block (a:=⟨bm,0,none⟩) g1).trans HC.out.2; clear hown hg g1)
 all_goals
  go_end0
  exact ⟨rfl,_,_,rfl,HOW.out,HG.out⟩
theorem zac (f:Int → Int → Int) (d:List (Int × Int × Int)) (t:Int × Int × Int):z43 f (d ++ [t]) = if 0 < f t.2.1 t.2.2 then z43 f d ++ [(t.1,f t.2.1 t.2.2)] else z43 f d:=by
 induction d with
 | nil =>
  simp only [List.nil_append,z43]
 | cons x r ih =>
  simp only [List.cons_append,z43,ih]
  split <;> split <;> simp_all
theorem zou (f:Int → Int → Int) (d:List (Int × Int × Int)):(z43 f d).length ≤ d.length:=by
 induction d with
 | nil => simp [z43]
 | cons x r ih =>
  simp only [z43]
  split <;> simp <;> omega
theorem zgr {a b:Mono} (ha:mayM a = true) (hb:mayM b = true):inBounds (z0m a b):=fun x hx => by
 have h2:∀ (l:List (Int × Int × Int)) (k:Int),ris k l → ∀ t ∈ l,k < t.1 ∧ t.1 ≤ 200:=by
  intro l
  induction l with
  | nil => intro k _ t ht; simp at ht
  | cons y s ih =>
   intro k hk t ht
   obtain ⟨g1,g2,g3⟩:=hk
   rcases List.mem_cons.1 ht with rfl | ht
   ·exact ⟨g1,g2⟩
   ·have:=ih _ g3 t ht; omega
 obtain ⟨h3,h4⟩:=zed ha hb
 have h5:∀ (l:List (Int × Int × Int)),x ∈ z43 (· + ·) l → ∃ t ∈ l,x = (t.1,t.2.1 + t.2.2):=by
  intro l
  induction l with
  | nil => intro h; simp [z43] at h
  | cons y s ih =>
   intro h
   simp only [z43] at h
   split at h
   ·rcases List.mem_cons.1 h with h | h
    ·exact ⟨y,by simp,h⟩
    ·obtain ⟨t,h6,h7⟩:=ih h
     exact ⟨t,by simp [h6],h7⟩
   ·obtain ⟨t,h6,h7⟩:=ih h
    exact ⟨t,by simp [h6],h7⟩
 obtain ⟨t,ht,rfl⟩:=h5 _ hx
 have h6:=h2 _ _ h3 t ht
 have h7:=zoi h3 ht
 rw [h4] at h7
 have h8:=z2t ha t.1
 have h9:=z2t hb t.1
 have h10:t.2.1 = ex a t.1:=(congrArg Prod.fst h7).symm
 have h11:t.2.2 = ex b t.1:=(congrArg Prod.snd h7).symm
 refine ⟨⟨?_,?_⟩,?_,?_⟩ <;> simp only <;> omega
theorem zc2 {S:Nat → Prop} (va vb:Value) (a b:Mono) (w:World) (ha:Pows S w va a) (hb:Pows S w vb b) (hS:∀ k,S k → k < w.heap.size) (hma:mayM a = true) (hmb:mayM b = true) :
  Calls Tryz.prog 128 #[va,vb,.func (.func 129) #[] #[]] w fun e w' => ∃ v',e = .returned v' ∧ Pows (New w w') w' v' (z0m a b) ∧ Ext w w':=by
 have hmf:∀ (fn:Fn) (first cap:Array Value) (w:World),(Instr.makeFunc fn first cap).run Tryz.prog w = .ok (.func fn first cap) w:=fun _ _ _ _ => rfl
 have HA:=hid ha
 have HB:=hid hb
 have HMA:=hid hma
 have HMB:=hid hmb
 obtain ⟨aa,ca,rfl⟩:=ha.form
 obtain ⟨a2,cb,rfl⟩:=hb.form
 clear ha hb hma hmb
 go_enter Tryz.func128,Tryz.ntmps128
 go_wp2_with fail
 have hK:Ext w ((w.alloc (.cells #[.func (.func 129) #[] #[]] 185)).alloc (.cells #[.slice none 0 0] 48)):=(Ext.alloc (Ext.refl w) _).alloc _
 have HK:=hid hK
 have hz:(w.alloc (.cells #[.func (.func 129) #[] #[]] 185)).heap.size = w.heap.size + 1:=z02 _ _
 refine (zf9 (S:=S) 143 #[.pointer (some ⟨w.heap.size,0,none⟩),.pointer (some ⟨w.heap.size + 1,0,none⟩)] (enters_of Tryz.func143 (by kernel_rfl) rfl)
  (fun d W => W.cell? ⟨w.heap.size,0,none⟩ = some (.func (.func 129) #[] #[]) ∧ (∃ v,W.cell? ⟨w.heap.size + 1,0,none⟩ = some v ∧ W.ownsRow (w.heap.size + 2) 52 2 v (z43 (· + ·) d).length (z4b (z43 (· + ·) d))) ∧ W.frozen? ⟨w.heap.size + 1,0,none⟩ = false ∧ Ext w W ∧ w.heap.size + 2 ≤ W.heap.size) a b _ ?_ ?_ ?_ _ _
  (HA.out.to (Kept.ext hK hS) (fun _ h => h)) (HB.out.to (Kept.ext hK hS) (fun _ h => h)) ⟨cell_old _ (z04 _ _ _ rfl rfl),⟨_,z04 _ _ _ hz.symm rfl,World.ownsRow_nil _ _ _ _⟩,?_,hK,by rw [z02,z02]; exact Nat.le_refl _⟩).mono ?_
 ·rintro d t r W hd ⟨h1,⟨v,h2,h3⟩,h4,h5,h6⟩
  have hb:=zay HA.out.inBounds HB.out.inBounds t (by rw [hd]; simp)
  obtain ⟨h7,h8⟩:=zed HMA.out HMB.out
  have h9:=zoi h7 (t:=t) (by rw [hd]; simp)
  rw [h8] at h9
  have h10:=z2t HMA.out t.1
  have h11:=z2t HMB.out t.1
  have h12:t.2.1 = ex a t.1:=(congrArg Prod.fst h9).symm
  have h13:t.2.2 = ex b t.1:=(congrArg Prod.snd h9).symm
  rw [show (#[Value.int .i64 t.1,.int .i64 t.2.1,.int .i64 t.2.2] ++ #[.pointer (some ⟨w.heap.size,0,none⟩),.pointer (some ⟨w.heap.size + 1,0,none⟩)]:Array Value) = #[.int .i64 t.1,.int .i64 t.2.1,.int .i64 t.2.2,.pointer (some ⟨w.heap.size,0,none⟩),.pointer (some ⟨w.heap.size + 1,0,none⟩)] from rfl]
  have hdl:(z43 (· + ·) d).length ≤ 1000000000:=by
   have k1:=zou (· + ·) d
   have k2:=zqw a b
   rw [hd,List.length_append] at k2
   have k3:=z4g HMA.out
   have k4:=z4g HMB.out
   omega
  by_cases hpos:0 < t.2.1 + t.2.2
  ·refine (zsp t.1 t.2.1 t.2.2 _ _ v _ _ _ W (by omega) hpos h1 h2 h4 (Nat.lt_succ_self _) h3 h6 hdl).mono ?_
   rintro e w' ⟨rfl,v',w2,rfl,k1,k2⟩
   have hne:∀ k,v.ownBlock = some k → w.heap.size + 2 ≤ k:=fun k hk => (h3.lt k hk).1
   have g1:w2.heap[w.heap.size]? = W.heap[w.heap.size]?:=k2.block _ (by omega) (fun e => by have:=hne _ e.symm; omega)
   have g2:w2.heap[w.heap.size + 1]? = W.heap[w.heap.size + 1]?:=k2.block _ (by omega) (fun e => by have:=hne _ e.symm; omega)
   refine ⟨rfl,z09 ((World.cell?_of_block (a:=⟨w.heap.size,0,none⟩) g1).trans h1) (ab (by omega)),⟨v',z1h (u:=v) ?_,?_⟩,z16 ?_,?_,?_⟩
   ·exact (World.cell?_of_block (a:=⟨w.heap.size + 1,0,none⟩) g2).trans h2
   ·refine ownsRow_setCell_below ?_ (Nat.lt_succ_self _) _
    rw [zac,if_pos hpos,z6o,List.length_append]
    simpa [z4b] using k1
   ·exact (World.frozen?_of_block (a:=⟨w.heap.size + 1,0,none⟩) g2).trans h4
   ·exact (z0n h5 k2 (fun k hk => by have:=hne k hk; omega)).setCell (p:=⟨w.heap.size + 1,0,none⟩) (Nat.le_succ _) _
   ·rw [z07]; exact Nat.le_trans h6 k2.size
  ·refine (zwn t.1 t.2.1 t.2.2 _ _ W (by omega) (by omega) h1).mono ?_
   rintro e w' ⟨rfl,rfl⟩
   refine ⟨rfl,h1,⟨v,h2,?_⟩,h4,h5,h6⟩
   rw [zac,if_neg hpos]
   exact h3
 ·rintro d W ⟨_,_,_,h3,_⟩ k hk
  exact (Kept.ext h3 hS k hk).trans (Kept.ext HK.out hS k hk).symm
 ·rintro d W q ⟨h1,⟨v,h2,h3⟩,h4,h5,h6⟩
  exact ⟨by simpa using h1,⟨v,by simpa using h2,h3⟩,by simpa using h4,h5.drewN q,h6⟩
 ·exact zwm _ _ _ hz.symm
 rintro e w3 ⟨rfl,h1,⟨v,h2,h3⟩,h4,h5,h6⟩
 have HX3:=hid h5
 have HP:=hid (z8p h3 (zgr HMA.out HMB.out))
 have hf:=Go.Joins.ownsRow_forms h3
 clear h1 h3 h5 hz hK
 rcases hf with ⟨rfl,-⟩ | ⟨bg,cg,rfl⟩
 all_goals
  go_wp2
  all_goals
   refine bodyPost_ret (by simp [results,Tryz.results128,go_sem,z1h h2]; rfl) rfl ?_
   exact ⟨_,rfl,HP.out.to (Kept.setCell (fun h => by have:w.heap.size + 2 ≤ w.heap.size + 1:=h.1; omega) _) (fun k h => ⟨by have:=h.1; omega,by rw [z07]; exact h.2⟩),HX3.out.setCell (p:=⟨w.heap.size + 1,0,none⟩) (Nat.le_succ _) _⟩
def z7q (a b:Mono):Int:=if mayM a && mayM b then (if mayM (z0m a b) then 0 else 8) else 2
def zaq (a b:Mono):Mono:=if mayM a && mayM b && mayM (z0m a b) then z0m a b else []
theorem zlf {S:Nat → Prop} (va vb:Value) (a b:Mono) (w:World) (ha:Pows S w va a) (hb:Pows S w vb b) (hS:∀ k,S k → k < w.heap.size) :
  Calls Tryz.prog 109 #[va,vb] w fun e w' => ∃ v',e = .returned (.tuple #[v',.int .i64 (z7q a b)]) ∧ Pows (New w w') w' v' (zaq a b) ∧ Ext w w':=by
 have hnot:∀ (x:Bool) (w:World),(Op.unary .not (.bool x)).run Tryz.prog w = .ok (.bool (!x)) w:=fun _ _ => rfl
 have HA:=hid ha
 have HB:=hid hb
 obtain ⟨aa,ca,rfl⟩:=ha.form
 obtain ⟨a2,cb,rfl⟩:=hb.form
 clear ha hb
 unfold z7q zaq
 cases hma:mayM a with
 | false =>
  have HC:=hid (z32 _ a w HA.out hS)
  simp only [hma] at HC
  go_enter Tryz.func109,Tryz.ntmps109
  go_wp2_with fail
  with_reducible refine HC.out.mono ?_
  rintro e w1 ⟨rfl,hx1⟩
  have HX1:=hid hx1
  clear hx1
  go_wp2
  all_goals
   go_ret2
   exact ⟨_,rfl,Pows.empty _ _ _,HX1.out⟩
 | true =>
  have HC:=hid (z32 _ a w HA.out hS)
  simp only [hma] at HC
  have HD:=hid (fun (W:World) (hW:Ext w W) => z32 _ b W (HB.out.ext hW hS) (z08 hS hW))
  cases hmb:mayM b with
  | false =>
   simp only [hmb] at HD
   go_enter Tryz.func109,Tryz.ntmps109
   go_wp2_with fail
   with_reducible refine HC.out.mono ?_
   rintro e w1 ⟨rfl,hx1⟩
   have HX1:=hid hx1
   clear hx1
   go_wp2_with fail
   with_reducible refine (HD.out _ HX1.out).mono ?_
   rintro e w2 ⟨rfl,hx2⟩
   have HX2:=hid (HX1.out.trans hx2)
   clear hx2
   go_wp2
   all_goals
    go_ret2
    exact ⟨_,rfl,Pows.empty _ _ _,HX2.out⟩
  | true =>
   simp only [hmb] at HD
   have HM:=hid (fun (W:World) (hW:Ext w W) => zc2 _ _ a b W (HA.out.ext hW hS) (HB.out.ext hW hS) (z08 hS hW) hma hmb)
   obtain ⟨m,hm⟩:∃ m,m = z0m a b:=⟨_,rfl⟩
   rw [← hm] at HM ⊢
   clear hm
   have HE:=hid (fun (W:World) (v:Value) (hv:Pows (Old W) W v m) => z32 _ m W hv (fun _ h => h))
   cases hmm:mayM m with
   | false =>
    simp only [hmm] at HE
    go_enter Tryz.func109,Tryz.ntmps109
    go_wp2_with fail
    with_reducible refine HC.out.mono ?_
    rintro e w1 ⟨rfl,hx1⟩
    have HX1:=hid hx1
    clear hx1
    go_wp2_with fail
    with_reducible refine (HD.out _ HX1.out).mono ?_
    rintro e w2 ⟨rfl,hx2⟩
    have HX2:=hid (HX1.out.trans hx2)
    clear hx2
    go_wp2_with fail
    with_reducible refine (HM.out _ HX2.out).mono ?_
    rintro e w3 ⟨v3,rfl,hp3,hx3⟩
    have HX3:=hid (HX2.out.trans hx3)
    have HCE:=hid (HE.out w3 v3 (hp3.to (Kept.refl _ _) New.lt))
    obtain ⟨a3,c3,rfl⟩:=hp3.form
    clear hp3 hx3
    go_wp2_with fail
    with_reducible refine HCE.out.mono ?_
    rintro e w4 ⟨rfl,hx4⟩
    have HX4:=hid (HX3.out.trans hx4)
    clear hx4
    go_wp2
    all_goals
     go_ret2
     exact ⟨_,rfl,Pows.empty _ _ _,HX4.out⟩
   | true =>
    simp only [hmm] at HE
    go_enter Tryz.func109,Tryz.ntmps109
    go_wp2_with fail
    with_reducible refine HC.out.mono ?_
    rintro e w1 ⟨rfl,hx1⟩
    have HX1:=hid hx1
    clear hx1
    go_wp2_with fail
    with_reducible refine (HD.out _ HX1.out).mono ?_
    rintro e w2 ⟨rfl,hx2⟩
    have HX2:=hid (HX1.out.trans hx2)
    clear hx2
    go_wp2_with fail
    with_reducible refine (HM.out _ HX2.out).mono ?_
    rintro e w3 ⟨v3,rfl,hp3,hx3⟩
    have HX3:=hid (HX2.out.trans hx3)
    have HCE:=hid (HE.out w3 v3 (hp3.to (Kept.refl _ _) New.lt))
    have HP3:=hid hp3
    have HX23:=hid hx3
    obtain ⟨a3,c3,rfl⟩:=hp3.form
    clear hp3 hx3
    go_wp2_with fail
    with_reducible refine HCE.out.mono ?_
    rintro e w4 ⟨rfl,hx4⟩
    have HX4:=hid (HX3.out.trans hx4)
    have HP4:Hid (Pows (New w w4) w4 (.slice a3 m.length c3) m):=hid (HP3.out.to (New.kept hx4) (fun k h => ⟨Nat.le_trans HX2.out.size h.1,Nat.lt_of_lt_of_le h.2 hx4.size⟩))
    clear hx4
    go_wp2
    all_goals
     go_ret2
     exact ⟨_,rfl,HP4.out,HX4.out⟩
end
section
open Go.RowKit
theorem z91 (n:Int) (w:World) (hn:-9223372036854775808 ≤ n ∧ n ≤ 9223372036854775807) :
  Calls Tryz.prog 77 #[.int .i64 n] w fun e w' => ∃ v',e = .returned v' ∧ IntV (New w w') w' v' (ofI n) ∧ Ext w w':=by
 obtain ⟨hn1,hn2⟩:=hn
 have HX0:=hid (Ext.alloc (Ext.refl w) (.cells #[.bool false,.slice none 0 0] 30))
 have HSZ:Hid (w.heap.size < (w.alloc (.cells #[.bool false,.slice none 0 0] 30)).heap.size):=hid (by rw [z02]; omega)
 by_cases h:n < 0
 ·obtain ⟨x,hx⟩:∃ x:Nat,(x:Int) = -n:=⟨(-n).toNat,by omega⟩
  have hxl:x < 18446744073709551616:=by omega
  have q1:n % 18446744073709551616 = 18446744073709551616 - (x:Int):=by omega
  have q2:IntKind.u64.wrap (-IntKind.u64.wrap n) = (x:Int):=by
   rw [IntKind.wrap_u64,IntKind.wrap_u64]
   omega
  have HS:=hid (fun W:World => zbh x W hxl)
  have HL:Hid ((rep B32 x).length ≤ 50000000000000):=hid (Nat.le_trans (z0f z00 x 2 (by show x < 4294967296 ^ 2; omega)) (by decide))
  have HQ:Hid (n = sg true x):=hid (by unfold sg; rw [if_pos rfl]; omega)
  clear hx hxl
  go_enter Tryz.func77,Tryz.ntmps77
  go_wp2_with fail
  with_reducible refine (HS.out _).mono ?_
  rintro e w1 ⟨v1,rfl,hp1,hx1⟩
  have HX1:=hid hx1
  have HP1:=hid hp1
  obtain ⟨a1,c1,rfl⟩:=hp1.form
  clear hp1 hx1
  go_wp2_with fail
  with_reducible refine (z4h true _ _ _ HP1.out New.lt HL.out).mono ?_
  rintro e w2 ⟨v2,rfl,⟨vm2,rfl,hu2⟩,hx2⟩
  have HX2:=hid hx2
  have HU2:=hid hu2
  obtain ⟨a2,n2,rfl⟩:=hu2.form
  have e0:=(HX1.out.trans hx2).new_cell (i:=0) rfl
  have e1:=(HX1.out.trans hx2).new_cell (i:=1) rfl
  have f0:=(HX1.out.trans hx2).new_free 0
  have f1:=(HX1.out.trans hx2).new_free 1
  have HE:=hid (And.intro e0 e1)
  rw [← HQ.out] at HU2 ⊢
  clear hx2 hu2
  go_wp2
  have hd:=fun x y => z19 x y HE.out.1 HE.out.2
  refine bodyPost_ret (by simp [results,Tryz.results77,go_sem,(hd _ _).1,(hd _ _).2]; rfl) rfl ?_
  have hg:=z33 (w0:=w) (b:=w.heap.size) rfl HU2.out (HX0.out.trans HX1.out) HX2.out (Nat.le_refl _) (Nat.lt_of_lt_of_le HSZ.out HX1.out.size) (.bool (ofI n).neg) (.slice a2 (ofI n).mag.length n2)
  exact ⟨_,rfl,hg.1,hg.2⟩
 ·obtain ⟨x,hx⟩:∃ x:Nat,(x:Int) = n:=⟨n.toNat,by omega⟩
  have hxl:x < 18446744073709551616:=by omega
  have q2:IntKind.u64.wrap n = (x:Int):=by
   rw [IntKind.wrap_u64]
   omega
  have HS:=hid (fun W:World => zbh x W hxl)
  have HL:Hid ((rep B32 x).length ≤ 50000000000000):=hid (Nat.le_trans (z0f z00 x 2 (by show x < 4294967296 ^ 2; omega)) (by decide))
  have HQ:Hid (n = sg false x):=hid (by unfold sg; simp; omega)
  clear hx hxl
  go_enter Tryz.func77,Tryz.ntmps77
  go_wp2_with fail
  with_reducible refine (HS.out _).mono ?_
  rintro e w1 ⟨v1,rfl,hp1,hx1⟩
  have HX1:=hid hx1
  have HP1:=hid hp1
  obtain ⟨a1,c1,rfl⟩:=hp1.form
  clear hp1 hx1
  go_wp2_with fail
  with_reducible refine (z4h false _ _ _ HP1.out New.lt HL.out).mono ?_
  rintro e w2 ⟨v2,rfl,⟨vm2,rfl,hu2⟩,hx2⟩
  have HX2:=hid hx2
  have HU2:=hid hu2
  obtain ⟨a2,n2,rfl⟩:=hu2.form
  have e0:=(HX1.out.trans hx2).new_cell (i:=0) rfl
  have e1:=(HX1.out.trans hx2).new_cell (i:=1) rfl
  have f0:=(HX1.out.trans hx2).new_free 0
  have f1:=(HX1.out.trans hx2).new_free 1
  have HE:=hid (And.intro e0 e1)
  rw [← HQ.out] at HU2 ⊢
  clear hx2 hu2
  go_wp2
  have hd:=fun x y => z19 x y HE.out.1 HE.out.2
  refine bodyPost_ret (by simp [results,Tryz.results77,go_sem,(hd _ _).1,(hd _ _).2]; rfl) rfl ?_
  have hg:=z33 (w0:=w) (b:=w.heap.size) rfl HU2.out (HX0.out.trans HX1.out) HX2.out (Nat.le_refl _) (Nat.lt_of_lt_of_le HSZ.out HX1.out.size) (.bool (ofI n).neg) (.slice a2 (ofI n).mag.length n2)
  exact ⟨_,rfl,hg.1,hg.2⟩
end
section
open Go.RowKit
theorem zlg {z:Int} (h:0 ≤ z ∧ z ≤ 10000):lenI z ≤ 1:=z50 (by show z.natAbs < 4294967296 ^ 1; omega)
theorem zgs {a b:Int} {j k:Nat} (ha:lenI a ≤ j) (hb:lenI b ≤ k):lenI (a * b) ≤ j + k:=by
 refine z50 ?_
 rw [Int.natAbs_mul,Nat.pow_add]
 exact Nat.mul_lt_mul'' (z2y ha (Nat.le_refl _)) (z2y hb (Nat.le_refl _))
theorem z9q {w w':World} {row:Option Nat} {b i:Nat} {v:Value} (hg:w.grownBy w' row) (hc:w.cell? ⟨b,i,none⟩ = some v) (hne:some b ≠ row):w'.cell? ⟨b,i,none⟩ = some v :=
 (World.cell?_of_block (a:=⟨b,i,none⟩) (hg.block b (z0s hc) hne)).trans hc
end
section
open Go.RowKit
end
section
open Go.RowKit
section
variable {S S':Nat → Prop} {w w':World} {v:Value} {l:List PZ}
end
end
section
open Go.RowKit
def zei (t:RTerm):Bool:=decide (20 < t.c.mag.length) || decide (12 < t.m.length)
def z6m (n:Int) (ts:List RTerm):Bool:=ts.any zei || decide (n < (ts.length:Int))
theorem zib {S:Nat → Prop} (v:Value) (ts:List RTerm) (n:Int) (w:World) (h:z06 S w v ts) (_hS:∀ k,S k → k < w.heap.size) (hn:-9223372036854775808 ≤ n ∧ n ≤ 9223372036854775807) :
  Calls Tryz.prog 10 #[v,.int .i64 n] w fun e w' => e = .returned (.bool (z6m n ts)) ∧ Ext w w':=by
 have H:=hid h
 have hl:=h.len_le
 obtain ⟨hn1,hn2⟩:=hn
 obtain ⟨a,cap,rfl⟩:=h.form
 clear h
 go_enter Tryz.func10,Tryz.ntmps10
 go_wp2
 go_loopw [5] (fun i wr => ∃ k:Nat,k ≤ ts.length ∧ i = .int .i64 k ∧ Ext w wr ∧ Hid ((ts.take k).any zei = false)) (fun i _ => ts.length - (intOf i).toNat)
 case atStart => exact ⟨0,Nat.zero_le _,rfl,Ext.refl _,hid rfl⟩
 case round =>
  obtain ⟨k,hk,rfl,hx,HM⟩:=hrel
  have HX:=hid hx
  by_cases hlt:k < ts.length
  ·obtain ⟨t,ht⟩:=z01 hlt
   obtain ⟨b,off,vm,vo,rfl,-,hq1,hm1,hSb,h1,h2,h3,h4,h5⟩:=H.out.cellAt ht
   have HT:Hid (ts.take (k + 1) = ts.take k ++ [t]):=hid (by rw [List.take_add_one,ht]; rfl)
   have HQ:=hid (List.mem_of_getElem? ht)
   have hl1:=h4.len_le
   have hl2:=h5.len_le
   have HBT:Hid (zei t = (decide (20 < t.c.mag.length) || decide (12 < t.m.length))):=hid rfl
   have g1:=Ext.cell hx h1
   have g2:=Ext.cell hx h2
   have g3:=Ext.cell hx h3
   obtain ⟨am,cm,rfl⟩:=h4.form
   obtain ⟨ao,co,rfl⟩:=h5.form
   generalize t.c.mag.length = x at *
   generalize t.m.length = y at *
   clear hx ht h1 h2 h3 h4 h5
   by_cases hbig:20 < x
   ·have HF:Hid (z6m n ts = true):=hid (by
     unfold z6m
     rw [List.any_eq_true.2 ⟨t,HQ.out,by rw [HBT.out,decide_eq_true hbig]; rfl⟩]
     rfl)
    go_wp2
    all_goals
     go_ret
     exact ⟨by rw [HF.out]; rfl,HX.out⟩
   ·by_cases hbig2:12 < y
    ·have HF:Hid (z6m n ts = true):=hid (by
      unfold z6m
      rw [List.any_eq_true.2 ⟨t,HQ.out,by rw [HBT.out,decide_eq_true hbig2,Bool.or_true]⟩]
      rfl)
     go_wp2
     all_goals
      go_ret
      exact ⟨by rw [HF.out]; rfl,HX.out⟩
    ·go_wp2
     go_roundw
     case rel => exact ⟨k + 1,by omega,by go_num,HX.out,hid (by rw [HT.out,List.any_append,HM.out]; simp [HBT.out]; omega)⟩
     case measure => simp only [intOf]; omega
  ·obtain rfl:k = ts.length:=by omega
   have HF:Hid (z6m n ts = decide (n < (ts.length:Int))):=hid (by
    have:=HM.out
    rw [List.take_length] at this
    unfold z6m
    rw [this,Bool.false_or])
   clear hx
   go_wp2
   all_goals
    go_ret
    exact ⟨by rw [HF.out]; rfl,HX.out⟩
end
section
open Go.RowKit
section
variable {S:Nat → Prop} {w w1 w2:World} {o:Value} {e:TypeId} {size n:Nat} {xs:List Value}
end
end
section
open Go.RowKit
theorem zov {p:PZ} {k:Nat} (h:bndZ k p) (hk:k ≤ 40000000000000):z3r (ofP p):=fun t ht => by
 obtain ⟨u,hu,rfl⟩:=List.mem_map.1 ht
 show (ofI u.1).mag.length ≤ _
 rw [z5m]
 exact Nat.le_trans (z50 (h u hu)) hk
theorem zow {ts:List RTerm} {k:Nat} (hok:okT ts) (h:∀ t ∈ ts,t.c.mag.length ≤ k):bndZ k (z0q ts):=fun u hu => by
 unfold z0q at hu
 split at hu
 ·obtain ⟨t,ht,rfl⟩:=List.mem_map.1 hu
  exact z2y (z4j (hok t ht)) (h t ht)
 ·simp at hu
theorem zjf {p:PZ} {k:Nat} (h:bndZ k p) (v e:Int):bndZ k (z3b p v e):=fun u hu => by
 obtain ⟨t,ht,-,rfl⟩:=z8w hu
 exact h t ht
theorem zsq {p:PZ} {k:Nat} (h:bndZ k p):bndZ k (z1w p):=by
 unfold z1w
 split
 ·exact h
 ·exact zjf h _ _
theorem zsr {p:PZ} {k:Nat} (h:bndZ k p):∀ t ∈ ofP p,t.c.mag.length ≤ k:=fun t ht => by
 obtain ⟨u,hu,rfl⟩:=List.mem_map.1 ht
 show (ofI u.1).mag.length ≤ _
 rw [z5m]
 exact z50 (h u hu)
theorem zox {n:Nat} {ts:List RTerm} (h:z6m n ts = false):ts.length ≤ n ∧ ∀ t ∈ ts,t.c.mag.length ≤ 20 ∧ t.m.length ≤ 12:=by
 unfold z6m at h
 rw [Bool.or_eq_false_iff] at h
 obtain ⟨k1,k2⟩:=h
 refine ⟨?_,fun t ht => ?_⟩
 ·rw [decide_eq_false_iff_not] at k2
  omega
 ·have k3:=(List.any_eq_false.1 k1) t ht
  unfold zei at k3
  simp at k3
  omega
theorem zej (p:PZ):(ofP p).length = p.length:=by unfold ofP; rw [List.length_map]
theorem zoy (ts:List RTerm):(z0q ts).length ≤ ts.length:=by
 unfold z0q
 split
 ·unfold toP; rw [List.length_map]; exact Nat.le_refl _
 ·simp
end
section
open Go.RowKit
def z61 (w:World):Option PZ → Ending → World → Prop
 | none => zwk w 8
 | some p => z90 w p
theorem zoz {ts:List RTerm} {k:Nat} {t:RTerm} (h:ts[k]? = some t):(toP ts)[k]? = some (valI t.c,t.m):=by
 unfold toP
 rw [List.getElem?_map,h]
 rfl
theorem zss (xs:PZ) (x:Int × Mono):ofP (xs ++ [x]) = ofP xs ++ [⟨ofI x.1,x.2⟩]:=by
 unfold ofP
 rw [List.map_append]
 rfl
theorem zp0 {ts:List RTerm} (h:mayT ts = true) {k:Nat} {t:RTerm} (ht:ts[k]? = some t):mayM t.m = true:=z8z h t (List.mem_of_getElem? ht)
theorem zlh {S:Nat → Prop} (vp vq:Value) (ps qs:List RTerm) (w:World) (L:Nat) (hp:z06 S w vp ps) (hq:z06 S w vq qs) (hS:∀ k,S k → k < w.heap.size) (hmp:mayT ps = true) (hmq:mayT qs = true)
  (hrp:∀ t ∈ ps,t.c.mag.length ≤ L) (hrq:∀ t ∈ qs,t.c.mag.length ≤ L) (hL:L ≤ 1000000000) (hc:(∀ t ∈ ps,lenI (valI t.c) < 24) ∨ (∀ t ∈ qs,lenI (valI t.c) < 24)) (hn:ps.length * qs.length ≤ 1000000000000) :
  Calls Tryz.prog 74 #[vp,vq] w (z61 w (z0g (toP ps) (toP qs))):=by
 have hnot:∀ (x:Bool) (w:World),(Op.unary .not (.bool x)).run Tryz.prog w = .ok (.bool (!x)) w:=fun _ _ => rfl
 have HP:=hid hp
 have HQ:=hid hq
 have HMP:=hid (fun (k:Nat) (t:RTerm) (ht:ps[k]? = some t) => zp0 hmp ht)
 have HMQ:=hid (fun (k:Nat) (t:RTerm) (ht:qs[k]? = some t) => zp0 hmq ht)
 have HRP:=hid hrp
 have HRQ:=hid hrq
 have HCC:=hid hc
 have HNM:=hid hn
 have hpl:=hp.len_le
 have hql:=hq.len_le
 have CA:=zjd (S:=fun k => S k ∨ k = w.heap.size) _ [ps,qs] (w.alloc (.cells #[vp,vq] 23)) (zby hp hq hS 23) (zje hS _) (fun p hp => by
  rcases List.mem_cons.1 hp with rfl | hp
  ·exact fun t ht => Nat.le_trans (hrp t ht) (by omega)
  ·rw [List.mem_singleton.1 hp]; exact fun t ht => Nat.le_trans (hrq t ht) (by omega))
 rw [show [ps,qs].all mayT = true by simp [hmp,hmq]] at CA
 obtain ⟨ap,cp,rfl⟩:=hp.form
 obtain ⟨aq,cq,rfl⟩:=hq.form
 obtain ⟨n,hnn⟩:∃ n,n = ps.length:=⟨_,rfl⟩
 obtain ⟨m,hmm⟩:∃ n,n = qs.length:=⟨_,rfl⟩
 rw [← hnn] at HP CA hpl HNM ⊢
 rw [← hmm] at HQ CA hql HNM ⊢
 have HN:=hid hnn
 have HM:=hid hmm
 have HCA:=hid CA
 have HS:=hid hS
 clear hp hq hmp hmq hrp hrq hc hn hnn hmm CA hS
 go_enter Tryz.func74,Tryz.ntmps74
 go_wp2_with fail
 with_reducible refine HCA.out.mono ?_
 rintro e w1 ⟨rfl,hx1⟩
 have HX1:=hid ((Ext.alloc (Ext.refl w) _).trans hx1)
 have HP1:=hid (HP.out.onS HX1.out HS.out)
 have HQ1:=hid (HQ.out.onS HX1.out HS.out)
 have HS1:=hid (z08 HS.out HX1.out)
 clear hx1
 go_wp2
 go_loopw [6,20] (fun o i wr => ∃ (k:Nat) (xs:PZ) (cs:List Value),k ≤ n ∧ i = .int .i64 k ∧ Ext w1 wr ∧ Hid (z5e (toP ps) (toP qs) (k * m) xs) ∧ Hid (xs.length = k * m) ∧ Hid (wr.ownsRow w1.heap.size 50 3 o xs.length cs) ∧ Hid (z0x (z60 w1 wr o) wr cs (ofP xs))) (fun _ i _ => n - (intOf i).toNat)
 case atStart => exact ⟨0,[],[],Nat.zero_le _,rfl,Ext.refl _,hid (by rw [Nat.zero_mul]; exact zbq _ _),hid (by rw [Nat.zero_mul]; rfl),World.ownsRow_nil _ _ _ _,rfl⟩
 case round =>
  obtain ⟨k,xs,cs,hk,rfl,hx,HF,HXL,HW,HY⟩:=hrel
  have HX:=hid hx
  by_cases hlt:k < n
  ·obtain ⟨t,ht⟩:=z01 (l:=ps) (j:=k) (by rw [← HN.out]; exact hlt)
   obtain ⟨b,off,vd,vo,rfl,-,hn1,hm1,hSb,h1,h2,h3,h4,h5⟩:=HP1.out.cellAt ht
   have h1:=hx.cell h1
   have h2:=hx.cell h2
   have h3:=hx.cell h3
   have HT:=hid ht
   have H4:=hid h4
   have H5:=hid h5
   obtain ⟨ad,cd,rfl⟩:=h4.form
   obtain ⟨ao,co,rfl⟩:=h5.form
   obtain ⟨ng,hng⟩:∃ b,b = t.c.neg:=⟨_,rfl⟩
   obtain ⟨nd,hnd⟩:∃ b,b = t.c.mag.length:=⟨_,rfl⟩
   obtain ⟨nm,hnm⟩:∃ b,b = t.m.length:=⟨_,rfl⟩
   have HNG:=hid hng
   rw [← hnd] at H4
   rw [← hnm] at H5
   rw [← hng] at h1
   rw [← hnd] at h2
   rw [← hnm] at h3
   have HXA:=hid (Ext.alloc (Ext.refl wr) (.cells #[.bool ng,.slice ad nd cd,.slice ao nm co] 50))
   clear ht h4 h5 hx hng hnd hnm
   go_wp2
   obtain ⟨wo,rfl⟩:∃ wo:World,wo = wr:=⟨_,rfl⟩
   go_loopw [6,26] (fun o i wr => ∃ (j:Nat) (xs:PZ) (cs:List Value),j ≤ m ∧ i = .int .i64 j ∧ Ext w1 wr ∧ Hid (wo.heap.size < wr.heap.size) ∧ Hid (wr.cell? ⟨wo.heap.size,0,none⟩ = some (.bool ng) ∧ wr.cell? ⟨wo.heap.size,1,none⟩ = some (.slice ad nd cd) ∧ wr.cell? ⟨wo.heap.size,2,none⟩ = some (.slice ao nm co)) ∧ Hid (some wo.heap.size ≠ o.ownBlock) ∧
    Hid (z5e (toP ps) (toP qs) (k * m + j) xs) ∧ Hid (xs.length = k * m + j) ∧ Hid (wr.ownsRow w1.heap.size 50 3 o xs.length cs) ∧ Hid (z0x (z60 w1 wr o) wr cs (ofP xs))) (fun _ i _ => m - (intOf i).toNat)
   case atStart => exact ⟨0,xs,cs,Nat.zero_le _,rfl,HX.out.trans HXA.out,hid (by rw [z02]; exact Nat.lt_succ_self _),hid ⟨z04 _ _ _ rfl rfl,z04 _ _ _ rfl rfl,z04 _ _ _ rfl rfl⟩,hid (fun e => by have:=(HW.out.lt _ e.symm).2; omega),HF,HXL,z0z HW.out HXA.out,z1g HY.out HXA.out⟩
   case round =>
    clear HF HXL HW HY
    obtain ⟨j,xs,cs,hj,rfl,hx,HGS,HKC,HNB,HF,HXL,HW,HY⟩:=hrel
    have HXW:=hid hx
    by_cases hlt2:j < m
    ·obtain ⟨u,hu⟩:=z01 (l:=qs) (j:=j) (by rw [← HM.out]; exact hlt2)
     obtain ⟨b2,off2,ve,vp2,rfl,-,hn2,hm2,hSb2,g1,g2,g3,g4,g5⟩:=(HQ1.out.onS HXW.out HS1.out).cellAt hu
     have HU:=hid hu
     have HAT:=hid (zg7 (zoz HT.out) (zoz hu))
     rw [show (toP qs).length = m by rw [z9n,HM.out]] at HAT
     have hmt:=HMP.out k t HT.out
     have hmu:=HMQ.out j u hu
     obtain ⟨k0,k1,k2⟩:=HKC.out
     obtain ⟨ae,ce,rfl⟩:=g4.form
     obtain ⟨aq2,cq2,rfl⟩:=g5.form
     obtain ⟨mg,hmg⟩:∃ b,b = u.c.neg:=⟨_,rfl⟩
     obtain ⟨ne,hne⟩:∃ b,b = u.c.mag.length:=⟨_,rfl⟩
     obtain ⟨nq,hnq⟩:∃ b,b = u.m.length:=⟨_,rfl⟩
     have HMG:=hid hmg
     have G4:=hid g4
     have G5:=hid g5
     rw [← hne] at G4
     rw [← hnq] at G5
     rw [← hmg] at g1
     rw [← hne] at g2
     rw [← hnq] at g3
     have HXB:=hid (Ext.alloc (Ext.refl wr) (.cells #[.bool mg,.slice ae ne ce,.slice aq2 nq cq2] 50))
     have k3:=HXB.out.cell k0
     have k4:=HXB.out.cell k1
     have k5:=HXB.out.cell k2
     have hS2:=z08 HS1.out HXW.out
     have HCT:=hid (zlf (S:=S) (.slice ao nm co) (.slice aq2 nq cq2) t.m u.m _ (H5.out.ext (hx.trans HXB.out) HS1.out) (G5.out.ext HXB.out hS2) (z08 hS2 HXB.out))
     have HCM:=hid (fun (W:World) (hW:Ext wr W) => znv (S:=S) (.agg #[.bool ng,.slice ad nd cd]) (.agg #[.bool mg,.slice ae ne ce]) t.c u.c W ⟨_,by rw [HNG.out],H4.out.ext (hx.trans hW) HS1.out⟩ ⟨_,by rw [HMG.out],G4.out.ext hW hS2⟩ (z08 hS2 hW) (Nat.le_trans (HRP.out t (List.mem_of_getElem? HT.out)) (by omega)) (Nat.le_trans (HRQ.out u (List.mem_of_getElem? hu)) (by omega))
      (HCC.out.imp (fun h => h t (List.mem_of_getElem? HT.out)) (fun h => h u (List.mem_of_getElem? hu))))
     have hkm:k * m + j < n * m:=by
      have:(k + 1) * m ≤ n * m:=Nat.mul_le_mul_right _ (by omega)
      rw [Nat.add_mul] at this
      omega
     have HKB:Hid (xs.length ≤ 1000000000000):=hid (by have h1:=HNM.out; have h2:=HXL.out; omega)
     cases hmx:mayM (z0m t.m u.m) with
     | false =>
      have he:z7q t.m u.m = 8:=by unfold z7q; rw [hmt,hmu,hmx]; rfl
      have HNO:=hid (zbs HF.out (HAT.out.trans (congrArg some (zok hmt hmu hmx))))
      rw [he] at HCT
      clear he hmx hmt hmu hx hu g4 g5 hmg hne hnq k0 k1 k2 hkm hS2
      go_wp2_with fail
      with_reducible refine HCT.out.mono ?_
      rintro e w2 ⟨v2,rfl,hp2,hx2⟩
      have HX2:=hid (HX1.out.trans (HXW.out.trans (HXB.out.trans hx2)))
      clear hp2 hx2
      go_wp2
      all_goals
       go_ret2
       rw [HNO.out]
       exact ⟨rfl,HX2.out⟩
     | true =>
      have he:z7q t.m u.m = 0:=by unfold z7q; rw [hmt,hmu,hmx]; rfl
      have hv:zaq t.m u.m = z0m t.m u.m:=by unfold zaq; rw [hmt,hmu,hmx]; rfl
      have HYES:=hid (zbr HF.out (HAT.out.trans (congrArg some (zj8 hmt hmu hmx))))
      rw [he,hv] at HCT
      clear he hv hmx hmt hmu hx hu g4 g5 hmg hne hnq k0 k1 k2 hkm hS2
      go_wp2_with fail
      with_reducible refine HCT.out.mono ?_
      rintro e w2 ⟨v2,rfl,hp2,hx2⟩
      have HX2:=hid (HXB.out.trans hx2)
      have l0:=hx2.cell k3
      have l1:=hx2.cell k4
      have r0:=hx2.new_cell (i:=0) rfl
      have r1:=hx2.new_cell (i:=1) rfl
      have HP2:=hid (hp2.to (S':=New wr w2) (Kept.refl _ _) (fun k h => ⟨Nat.le_trans HXB.out.size h.1,h.2⟩))
      obtain ⟨a2,c2,rfl⟩:=hp2.form
      obtain ⟨n2,hn2'⟩:∃ b,b = (z0m t.m u.m).length:=⟨_,rfl⟩
      rw [← hn2'] at HP2 ⊢
      have HCM2:=hid (HCM.out w2 (HXB.out.trans hx2))
      clear hp2 hx2 hn2' k3 k4 k5
      go_wp2_with fail
      with_reducible refine HCM2.out.mono ?_
      rintro e w3 ⟨v3,rfl,⟨vm3,rfl,hu3⟩,hx3⟩
      have HX3:=hid (HX2.out.trans hx3)
      have HXW3:=hid (HXW.out.trans (HX2.out.trans hx3))
      have HW3:=hid (z0z HW.out HX3.out)
      obtain ⟨b3,hb3⟩:∃ b,b = (ofI (valI t.c * valI u.c)).neg:=⟨_,rfl⟩
      have hone:z0x (New wr w3) w3 [.bool (ofI (valI t.c * valI u.c)).neg,vm3,.slice a2 n2 c2] [⟨ofI (valI t.c * valI u.c),z0m t.m u.m⟩] :=
       z0x.single (t:=⟨ofI (valI t.c * valI u.c),z0m t.m u.m⟩) (hu3.to (Kept.refl _ _) (fun k h => ⟨Nat.le_trans HX2.out.size h.1,h.2⟩)) (HP2.out.to (Kept.ext hx3 (fun _ h => h.2)) (fun k h => ⟨h.1,Nat.lt_of_lt_of_le h.2 hx3.size⟩))
      have HY3:=hid ((z1g HY.out HX3.out).append (zbm HXW.out.size HW.out hone))
      rw [← zss xs (valI t.c * valI u.c,z0m t.m u.m)] at HY3
      obtain ⟨a3,c3,rfl⟩:=hu3.form
      obtain ⟨n3,hn3⟩:∃ b,b = (ofI (valI t.c * valI u.c)).mag.length:=⟨_,rfl⟩
      rw [← hb3,← hn3] at HY3 ⊢
      clear hone hu3 hx3 hb3 hn3 l0 l1 r0 r1
      go_wp2_with (at_builtin; refine z1y _ rfl (.tmp 41) (.tmp 49) 22 rfl w1.heap.size 50 (.agg #[.bool false,.slice none 0 0,.slice none 0 0]) 3 56 Tryz.underlying22 Tryz.infoTerm rfl (by decide) _ xs.length cs rfl HW3.out #[.bool b3,.slice a3 n3 c3,.slice a2 n2 c2] rfl (z2f rfl rfl rfl) rfl HKB.out (by decide) HXW3.out.size ?_; intro v5 w5 hown hg hbk; have HW5:=hid hown; have HG5:=hid hg; have HBK:=hid hbk; clear hown hg hbk)
      go_roundw
      case rel =>
       refine ⟨j + 1,xs ++ [(valI t.c * valI u.c,z0m t.m u.m)],cs ++ (#[.bool b3,.slice a3 n3 c3,.slice a2 n2 c2]:Array Value).toList,by omega,by go_num,z2r HXW3.out HW3.out HG5.out,hid (Nat.lt_of_lt_of_le HGS.out (Nat.le_trans HX3.out.size HG5.out.size)),hid ⟨z9q HG5.out (HX3.out.cell HKC.out.1) HNB.out,z9q HG5.out (HX3.out.cell HKC.out.2.1) HNB.out,z9q HG5.out (HX3.out.cell HKC.out.2.2) HNB.out⟩,hid (fun e => by rcases HBK.out with h | h; exact HNB.out (e.trans h); exact absurd (Option.some.inj (e.trans h)) (by have:=HGS.out; have:=HX3.out.size; omega)),HYES,?_,?_,z47 HY3.out HG5.out HBK.out (Nat.le_succ _)⟩
       ·show _ = _; rw [List.length_append,HXL.out]; rfl
       ·show World.ownsRow _ _ _ _ _ _ _; rw [List.length_append]; exact HW5.out
      case measure => simp only [intOf]; omega
    ·obtain rfl:m = j:=by omega
     clear hx
     go_wp2
     go_roundw
     case rel =>
      have e:(k + 1) * m = k * m + m:=by rw [Nat.add_mul,Nat.one_mul]
      exact ⟨k + 1,xs,cs,by omega,by go_num,HXW.out,by rw [e]; exact HF,by rw [e]; exact HXL,HW,HY⟩
     case measure => simp only [intOf]; omega
  ·obtain rfl:n = k:=by omega
   have hall:=zdc HF.out (by rw [z9n,z9n,← HN.out,← HM.out])
   have HALL:=hid hall
   have ho:=z6z (S:=Old wr) (p:=ofP xs) (by rw [z7m]; exact HW.out) (HY.out.to (Kept.refl _ _) (fun _ h => h.1.2)) (fun k h1 h2 => h2)
   have HCO:=hid (z5h u6 (ofP xs) wr (L + L) ho (fun _ h => h) (fun t ht => by
    obtain ⟨x,hx,rfl⟩:=List.mem_map.1 ht
    exact (z7o HF.out hx).1) (fun t ht => by
    obtain ⟨x,hx,rfl⟩:=List.mem_map.1 ht
    obtain ⟨-,a,ha,b,hb,e⟩:=z7o HF.out hx
    obtain ⟨a',ha',rfl⟩:=List.mem_map.1 ha
    obtain ⟨b',hb',rfl⟩:=List.mem_map.1 hb
    show (ofI x.1).mag.length ≤ _
    rw [z5m,e]
    exact zgs (Nat.le_trans (z4j (HP.out.okT a' ha')) (HRP.out a' ha')) (Nat.le_trans (z4j (HQ.out.okT b' hb')) (HRQ.out b' hb'))) (by omega) (by rw [z7m,HXL.out]; have:=HNM.out; omega))
   rw [z6t] at HCO
   clear hx hall ho
   go_wp2_with fail
   with_reducible refine HCO.out.mono ?_
   rintro e w2 ⟨v2,rfl,hp2,hx2⟩
   have HP2:=hid (hp2.to (S':=New w w2) (Kept.refl _ _) (fun k h => ⟨Nat.le_trans (HX1.out.trans HX.out).size h.1,h.2⟩))
   have HX2:=hid ((HX1.out.trans HX.out).trans hx2)
   clear hp2 hx2
   go_wp2
   all_goals
    go_ret2
    rw [HALL.out]
    exact ⟨_,rfl,HP2.out,HX2.out⟩
end
end Go.Proofs.YtdcijfhkfhhfjaaGreat
