/- SideSense: the row of spots as quotients; a told point's spot. SideSense: the condition by its word. From the form's own reading of an argument to three spots: six quotients. What SideSense stands on. -/
import Derived.OpenShut
import Derived.Test.YtbfflodidkfphaaGreatSe13
set_option maxRecDepth 100000
set_option maxHeartbeats 16000000
namespace Go.Proofs.YtbfflodidkfphaaGreat
section
open Go.RowKit
def SpR (S:Nat → Prop) (w:World) (xs:List Value) (l:List (Rat × Rat)):Prop:=xs.length = l.length * 8 ∧ ∀ j r,l[j]? = some r → ∃ b1 a1 l1 c1 b2 a2 l2 c2 b3 a3 l3 c3 b4 a4 l4 c4,
 ((xs[j * 8]? = some (.bool b1) ∧ xs[j * 8 + 1]? = some (.slice a1 l1 c1) ∧ xs[j * 8 + 2]? = some (.bool b2) ∧ xs[j * 8 + 3]? = some (.slice a2 l2 c2)) ∧
  xs[j * 8 + 4]? = some (.bool b3) ∧ xs[j * 8 + 5]? = some (.slice a3 l3 c3) ∧ xs[j * 8 + 6]? = some (.bool b4) ∧ xs[j * 8 + 7]? = some (.slice a4 l4 c4)) ∧
  SP S w (.agg #[.bool b1,.slice a1 l1 c1,.bool b2,.slice a2 l2 c2,.bool b3,.slice a3 l3 c3,.bool b4,.slice a4 l4 c4]) r.1 r.2 31
theorem SpR.nil (S:Nat → Prop) (w:World):SpR S w [] []:=⟨rfl,fun j r h => by simp at h⟩
theorem SpR.to {S S':Nat → Prop} {w w':World} {xs:List Value} {l:List (Rat × Rat)} (h:SpR S w xs l) (hk:Kept S w w') (hS:∀ k,S k → S' k):SpR S' w' xs l:=by
 refine ⟨h.1,fun j r hj => ?_⟩
 obtain ⟨b1,a1,l1,c1,b2,a2,l2,c2,b3,a3,l3,c3,b4,a4,l4,c4,hc,hp⟩:=h.2 j r hj
 exact ⟨b1,a1,l1,c1,b2,a2,l2,c2,b3,a3,l3,c3,b4,a4,l4,c4,hc,hp.to hk hS⟩
section
variable {w w1 w2:World} {o:Value} {e:TypeId} {size n:Nat} {xs ys:List Value}
theorem znc {l:List (Rat × Rat)} (h:SpR (z37 w w1 o) w1 xs l) (hx:Ext w1 w2):SpR (z37 w w2 o) w2 xs l :=
 h.to (Kept.ext hx (fun _ h => h.1.2)) (fun _ h => ⟨⟨h.1.1,Nat.lt_of_lt_of_le h.1.2 hx.size⟩,h.2⟩)
theorem zu5 {v:Value} {p q:Rat} {B:Nat} (h0:Ext w w1) (ho:w1.ownsRow w.heap.size e size o n ys) (h:SP (New w1 w2) w2 v p q B):SP (z37 w w2 o) w2 v p q B :=
 h.to (Kept.refl _ _) (fun k hk => ⟨⟨Nat.le_trans h0.size hk.1,hk.2⟩,fun e => by
  have:=(ho.lt k e.symm).2
  have:=hk.1
  omega⟩)
theorem znd {v3:Value} {w3:World} {l:List (Rat × Rat)} {B:Nat} (h:SpR (z37 w w2 o) w2 xs l) (hg:w2.grownBy w3 o.ownBlock) (hb:v3.ownBlock = o.ownBlock ∨ v3.ownBlock = some B) (hB:w2.heap.size ≤ B):SpR (z37 w w3 v3) w3 xs l :=
 h.to (Kept.grown hg (fun _ h => ⟨h.1.2,h.2⟩)) (fun k hk => ⟨⟨hk.1.1,Nat.lt_of_lt_of_le hk.1.2 hg.size⟩,by
  rcases hb with e | e
  ·rw [e]; exact hk.2
  ·rw [e]
   intro e2
   have e3:k = B:=Option.some.inj e2
   have:=hk.1.2
   omega⟩)
end
theorem z63 {xs cs:List Value} {n i:Nat} (h:xs.length = n):(xs ++ cs)[n + i]? = cs[i]?:=by
 rw [List.getElem?_append_right (by omega)]
 congr 1
 omega
theorem z4s {xs cs:List Value} {i:Nat} {u:Value} (h:xs[i]? = some u):(xs ++ cs)[i]? = some u:=by
 rw [List.getElem?_append_left (List.getElem?_eq_some_iff.1 h).1,h]
theorem SpR.snoc {S:Nat → Prop} {w:World} {xs:List Value} {l:List (Rat × Rat)} {p q:Rat} {b1 b2 b3 b4:Bool} {a1 a2 a3 a4:Option Addr} {l1 l2 l3 l4 c1 c2 c3 c4:Nat} (h:SpR S w xs l) (hp:SP S w (.agg #[.bool b1,.slice a1 l1 c1,.bool b2,.slice a2 l2 c2,.bool b3,.slice a3 l3 c3,.bool b4,.slice a4 l4 c4]) p q 31) :
  SpR S w (xs ++ [.bool b1,.slice a1 l1 c1,.bool b2,.slice a2 l2 c2,.bool b3,.slice a3 l3 c3,.bool b4,.slice a4 l4 c4]) (l ++ [(p,q)]):=by
 refine ⟨by simp [h.1]; omega,fun j r hj => ?_⟩
 by_cases e:j < l.length
 ·rw [List.getElem?_append_left e] at hj
  obtain ⟨b1',a1',l1',c1',b2',a2',l2',c2',b3',a3',l3',c3',b4',a4',l4',c4',⟨⟨k0,k1,k2,k3⟩,k4,k5,k6,k7⟩,hq⟩:=h.2 j r hj
  exact ⟨b1',a1',l1',c1',b2',a2',l2',c2',b3',a3',l3',c3',b4',a4',l4',c4',⟨⟨z4s k0,z4s k1,z4s k2,z4s k3⟩,z4s k4,z4s k5,z4s k6,z4s k7⟩,hq⟩
 ·have e2:j = l.length:=by
   have:=z03 hj
   simp at this
   omega
  subst e2
  rw [List.getElem?_append_right (Nat.le_refl _),Nat.sub_self] at hj
  obtain rfl:(p,q) = r:=by simpa using hj
  exact ⟨b1,a1,l1,c1,b2,a2,l2,c2,b3,a3,l3,c3,b4,a4,l4,c4,⟨⟨z63 (i:=0) h.1,z63 (i:=1) h.1,z63 (i:=2) h.1,z63 (i:=3) h.1⟩,z63 (i:=4) h.1,z63 (i:=5) h.1,z63 (i:=6) h.1,z63 (i:=7) h.1⟩,hp⟩
theorem zq7 {S:Nat → Prop} {w:World} {base:Nat} {e:TypeId} {v:Value} {n:Nat} {xs:List Value} {l:List (Rat × Rat)} (h:w.ownsRow base e 8 v n xs) (hs:SpR S w xs l) (hS:∀ k,S k → k < w.heap.size) (hn:n = l.length) (h0:0 < n) :
  ∃ g cap,v = .slice (some ⟨g,0,none⟩) n cap ∧ n ≤ cap ∧ Spts w g l:=by
 rcases h.2 with ⟨rfl,hz⟩ | ⟨g,cap,cur,rfl,hg,hh,h1,h2,h3,h4⟩
 ·exact absurd hz (by omega)
 ·refine ⟨g,cap,rfl,h1,fun j r hj => ?_⟩
  have hc:∀ i u,xs[i]? = some u → w.cell? ⟨g,i,none⟩ = some u:=fun i u hu => by
   have:=h.cellAt i (by have h1:=z03 hu; have h2:=hs.1; omega)
   rw [this,hu]
  obtain ⟨b1,a1,l1,c1,b2,a2,l2,c2,b3,a3,l3,c3,b4,a4,l4,c4,⟨⟨k0,k1,k2,k3⟩,k4,k5,k6,k7⟩,hp⟩:=hs.2 j r hj
  exact ⟨b1,a1,l1,c1,b2,a2,l2,c2,b3,a3,l3,c3,b4,a4,l4,c4,⟨⟨hc _ _ k0,hc _ _ k1,hc _ _ k2,hc _ _ k3⟩,hc _ _ k4,hc _ _ k5,hc _ _ k6,hc _ _ k7⟩,hp.to (Kept.refl _ _) hS⟩
theorem zjd {nm:ByteArray} {c:Int × Int} (h:z2d lay3 nm = some c):∃ r:Nat,r < 3 ∧ idxI lay3.pts nm = (r:Nat) ∧ c = (((2 * r + 1:Nat):Int),((2 * r + 2:Nat):Int)):=by
 unfold z2d at h
 cases hp:posS lay3.pts nm with
 | none => rw [hp] at h; cases h
 | some i =>
  rw [hp,Option.bind_some] at h
  have hi:i < 3:=z03 h
  refine ⟨i,hi,by unfold idxI; rw [hp],?_⟩
  rcases (show i = 0 ∨ i = 1 ∨ i = 2 by omega) with rfl | rfl | rfl <;> exact (Option.some.inj h).symm
theorem zu6 (s:Six) {r:Nat} (h:r < 3):spQ s.pts (((2 * r + 1:Nat):Int),((2 * r + 2:Nat):Int)) = (putQ (valI (s.x (2 * r)).1) (valI (s.x (2 * r)).2),putQ (valI (s.x (2 * r + 1)).1) (valI (s.x (2 * r + 1)).2)):=by
 rcases (show r = 0 ∨ r = 1 ∨ r = 2 by omega) with rfl | rfl | rfl <;> rfl
theorem zne (s:Six) {r:Nat} (h:r < 3):∀ (i:Nat) (u:Value),([.bool (s.g (2 * r)),.slice (s.a (2 * r)) (s.l (2 * r)) (s.c (2 * r)),.bool (s.h (2 * r)),.slice (s.b (2 * r)) (s.m (2 * r)) (s.d (2 * r)),.bool (s.g (2 * r + 1)),.slice (s.a (2 * r + 1)) (s.l (2 * r + 1)) (s.c (2 * r + 1)),.bool (s.h (2 * r + 1)),.slice (s.b (2 * r + 1)) (s.m (2 * r + 1)) (s.d (2 * r + 1))]:List Value)[i]? = some u → (#[.bool (s.g 0),.slice (s.a 0) (s.l 0) (s.c 0),.bool (s.h 0),.slice (s.b 0) (s.m 0) (s.d 0),.bool (s.g 1),.slice (s.a 1) (s.l 1) (s.c 1),.bool (s.h 1),.slice (s.b 1) (s.m 1) (s.d 1),.bool (s.g 2),.slice (s.a 2) (s.l 2) (s.c 2),.bool (s.h 2),.slice (s.b 2) (s.m 2) (s.d 2),.bool (s.g 3),.slice (s.a 3) (s.l 3) (s.c 3),.bool (s.h 3),.slice (s.b 3) (s.m 3) (s.d 3),.bool (s.g 4),.slice (s.a 4) (s.l 4) (s.c 4),.bool (s.h 4),.slice (s.b 4) (s.m 4) (s.d 4),.bool (s.g 5),.slice (s.a 5) (s.l 5) (s.c 5),.bool (s.h 5),.slice (s.b 5) (s.m 5) (s.d 5)]:Array Value)[r * 8 + i]? = some u:=by
 intro i u hu
 have hi:i < 8:=(List.getElem?_eq_some_iff.1 hu).1
 rcases (show r = 0 ∨ r = 1 ∨ r = 2 by omega) with rfl | rfl | rfl <;>
  rcases (show i = 0 ∨ i = 1 ∨ i = 2 ∨ i = 3 ∨ i = 4 ∨ i = 5 ∨ i = 6 ∨ i = 7 by omega) with rfl | rfl | rfl | rfl | rfl | rfl | rfl | rfl <;> exact hu
theorem zq8 {W w:World} {s:Six} (hs:SixAt W s) (hx:Ext W w) {r:Nat} (h:r < 3):ztt (Old w) w (.agg #[.bool (s.g (2 * r)),.slice (s.a (2 * r)) (s.l (2 * r)) (s.c (2 * r)),.bool (s.h (2 * r)),.slice (s.b (2 * r)) (s.m (2 * r)) (s.d (2 * r)),.bool (s.g (2 * r + 1)),.slice (s.a (2 * r + 1)) (s.l (2 * r + 1)) (s.c (2 * r + 1)),.bool (s.h (2 * r + 1)),.slice (s.b (2 * r + 1)) (s.m (2 * r + 1)) (s.d (2 * r + 1))]) (s.x (2 * r)).1 (s.x (2 * r)).2 (s.x (2 * r + 1)).1 (s.x (2 * r + 1)).2:=by
 refine ⟨_,_,_,_,by rw [hs.g _ (by omega),hs.h _ (by omega),hs.g _ (by omega),hs.h _ (by omega)],?_,?_,?_,?_⟩
 ·exact (hs.u _ (by omega)).to (Kept.ext hx (fun _ h => h)) (z2b hx)
 ·exact (hs.v _ (by omega)).to (Kept.ext hx (fun _ h => h)) (z2b hx)
 ·exact (hs.u _ (by omega)).to (Kept.ext hx (fun _ h => h)) (z2b hx)
 ·exact (hs.v _ (by omega)).to (Kept.ext hx (fun _ h => h)) (z2b hx)
theorem zje {b1 b2 b3 b4:Bool} {a1 a2 a3 a4:Option Addr} {l1 l2 l3 l4 c1 c2 c3 c4:Nat}:∀ u ∈ (#[.bool b1,.slice a1 l1 c1,.bool b2,.slice a2 l2 c2,.bool b3,.slice a3 l3 c3,.bool b4,.slice a4 l4 c4]:Array Value).toList,u.oneCell' = true:=by
 intro u hu
 simp at hu
 rcases hu with rfl | rfl | rfl | rfl | rfl | rfl | rfl | rfl <;> rfl
end
section
open Go.RowKit
theorem zsp {w:World} {g cap n:Nat} {wd:ByteArray} {l:List (Rat × Rat)} (ha:askW wd = some l.length) (hn:n = l.length) (hc:n ≤ cap) (hs:Spts w g l) :
  Calls Tryz.prog 16 #[.string wd,.slice (some ⟨g,0,none⟩) n cap] w fun e w' => ∃ v',e = .returned (.tuple #[v',.int .i64 0]) ∧ QR (New w w') w' v' (z6n wd l) 253 ∧ Ext w w':=by
 subst hn
 unfold askW at ha
 by_cases h1:wd = z0z
 ·rw [if_pos h1] at ha
  subst h1
  have h2:l.length = 2:=(Option.some.inj ha).symm
  rw [h2] at hc ⊢
  exact zc1 h2 hc hs
 ·rw [if_neg h1] at ha
  by_cases h1:wd = z1a
  ·rw [if_pos h1] at ha
   subst h1
   have h2:l.length = 3:=(Option.some.inj ha).symm
   rw [h2] at hc ⊢
   exact zdy h2 hc hs
  ·rw [if_neg h1] at ha
   by_cases h1:wd = z1j
   ·rw [if_pos h1] at ha
    subst h1
    have h2:l.length = 4:=(Option.some.inj ha).symm
    rw [h2] at hc ⊢
    exact zdz h2 hc hs
   ·rw [if_neg h1] at ha
    by_cases h1:wd = wDot
    ·rw [if_pos h1] at ha
     subst h1
     have h2:l.length = 4:=(Option.some.inj ha).symm
     rw [h2] at hc ⊢
     exact zj5 h2 hc hs
    ·rw [if_neg h1] at ha
     cases ha
theorem zsq {wd:ByteArray} {n:Nat} (h:askW wd = some n):0 < n:=by
 unfold askW at h
 split at h
 ·obtain rfl:=Option.some.inj h; decide
 ·split at h
  ·obtain rfl:=Option.some.inj h; decide
  ·split at h
   ·obtain rfl:=Option.some.inj h; decide
   ·split at h
    ·obtain rfl:=Option.some.inj h; decide
    ·cases h
end
section
open Go.RowKit Go.Deep Go.ChangeShapes Go.WideShapes Go.ChangeAt
theorem Tryz.cells_ratS:Tryz.prog.cellsOf 28 = 4:=by kernel_rfl
theorem Tryz.cells_spotS:Tryz.prog.cellsOf 30 = 8:=by kernel_rfl
theorem Tryz.cells_spots3:Tryz.prog.cellsOf 31 = 24:=by kernel_rfl
theorem zsr {l:List Value} (h:l.length = 24):∃ c0 c1 c2 c3 c4 c5 c6 c7 c8 c9 c10 c11 c12 c13 c14 c15 c16 c17 c18 c19 c20 c21 c22 c23,l = [c0,c1,c2,c3,c4,c5,c6,c7,c8,c9,c10,c11,c12,c13,c14,c15,c16,c17,c18,c19,c20,c21,c22,c23]:=by
 match l,h with
 | [c0,c1,c2,c3,c4,c5,c6,c7,c8,c9,c10,c11,c12,c13,c14,c15,c16,c17,c18,c19,c20,c21,c22,c23],_ => exact ⟨c0,c1,c2,c3,c4,c5,c6,c7,c8,c9,c10,c11,c12,c13,c14,c15,c16,c17,c18,c19,c20,c21,c22,c23,rfl⟩
section
variable {H:Type} {enc:TypeId × Value → H} {w:World} {base:Nat} {spare:Nat → Bool} {held:Bool}
theorem z7t {fuel:Nat} {c0 c1:Value} {x:DataW H × List MemPlace} (h:DataW.trod enc Tryz.prog w base spare held fuel 26 [c0,c1] = some x):∃ (r:RInt) (a:Option Addr) (c:Nat),c0 = .bool r.neg ∧ c1 = .slice a r.mag.length c ∧ U32s (Old w) w c1 r.mag:=by
 obtain ⟨fuel',hf⟩:∃ f,f = fuel:=⟨_,rfl⟩
 subst hf
 obtain ⟨z0,z1,m',_,_,k0,k1⟩:=trod_struct2 Tryz.underlying26 h
 simp [Tryz.cells_bool,Tryz.cells_su32] at k0 k1
 obtain ⟨ng,e0,_⟩:=DataW.trod_bool Tryz.underlying4 k0
 simp at e0
 subst e0
 obtain ⟨zs,hzs⟩:=zck k1
 obtain ⟨a,c,e1⟩:=hzs.form
 exact ⟨⟨ng,zs⟩,a,c,rfl,e1,hzs⟩
theorem z8d {fuel:Nat} {c0 c1 c2 c3 c4 c5 c6 c7:Value} {x:DataW H × List MemPlace} (h:DataW.trod enc Tryz.prog w base spare held fuel 30 [c0,c1,c2,c3,c4,c5,c6,c7] = some x) :
  ∃ (r0 r1 r2 r3:RInt) (a0 a1 a2 a3:Option Addr) (n0 n1 n2 n3:Nat),(c0 = .bool r0.neg ∧ c1 = .slice a0 r0.mag.length n0 ∧ c2 = .bool r1.neg ∧ c3 = .slice a1 r1.mag.length n1 ∧ c4 = .bool r2.neg ∧ c5 = .slice a2 r2.mag.length n2 ∧ c6 = .bool r3.neg ∧ c7 = .slice a3 r3.mag.length n3) ∧
   U32s (Old w) w c1 r0.mag ∧ U32s (Old w) w c3 r1.mag ∧ U32s (Old w) w c5 r2.mag ∧ U32s (Old w) w c7 r3.mag:=by
 obtain ⟨y0,y1,m,_,_,g0,g1⟩:=trod_struct2 Tryz.underlying30 h
 simp [Tryz.cells_ratS] at g0 g1
 obtain ⟨y2,y3,m2,_,_,g2,g3⟩:=trod_struct2 Tryz.underlying28 g0
 simp [Tryz.cells_int] at g2 g3
 obtain ⟨y4,y5,m4,_,_,g4,g5⟩:=trod_struct2 Tryz.underlying28 g1
 simp [Tryz.cells_int] at g4 g5
 obtain ⟨r0,a0,n0,e0,f0,h0⟩:=z7t g2
 obtain ⟨r1,a1,n1,e1,f1,h1⟩:=z7t g3
 obtain ⟨r2,a2,n2,e2,f2,h2⟩:=z7t g4
 obtain ⟨r3,a3,n3,e3,f3,h3⟩:=z7t g5
 exact ⟨r0,r1,r2,r3,a0,a1,a2,a3,n0,n1,n2,n3,⟨e0,f0,e1,f1,e2,f2,e3,f3⟩,h0,h1,h2,h3⟩
end
theorem zfz {α:Type} {xs:List α} {i:Nat} (h:i < xs.length):∃ x,xs[i]? = some x:=⟨xs[i],List.getElem?_eq_getElem h⟩
section
variable {H:Type} {enc:TypeId × Value → H} {W:World} {base b0:Nat} {sp:Nat → Bool} {held:Bool}
theorem zss {v:Value} {d:DataW H} {p:List MemPlace} (hv:Value.okWide Tryz.prog W .any base 31 v) (h:DataW.Trod enc Tryz.prog W b0 sp held 31 v d p) :
  ∃ s:Six,v = s.v ∧ SixAt W s:=by
 have hcs:∃ cs,v = .agg cs ∧ cs.size = Tryz.prog.cellsOf 31:=by
  simp only [Value.okWide,Tryz.underlying31] at hv
  obtain ⟨cs,h1,h2,_⟩:=hv
  exact ⟨cs,h1,h2⟩
 obtain ⟨cs,rfl,hsz⟩:=hcs
 obtain ⟨c0,c1,c2,c3,c4,c5,c6,c7,c8,c9,c10,c11,c12,c13,c14,c15,c16,c17,c18,c19,c20,c21,c22,c23,hl⟩:=zsr (l:=cs.toList) (by rw [Array.length_toList,hsz,Tryz.cells_spots3])
 obtain ⟨fuel,hf⟩:=h
 have hf2:DataW.trod enc Tryz.prog W b0 sp held fuel 31 cs.toList = some (d,p):=hf
 rw [hl] at hf2
 obtain ⟨xs,m,-,-,-,hxl,hx⟩:=DataW.trod_array Tryz.underlying31 hf2
 have hq:∀ i,i < 3 → ∃ y,DataW.trod enc Tryz.prog W b0 sp held m 30 ((([c0,c1,c2,c3,c4,c5,c6,c7,c8,c9,c10,c11,c12,c13,c14,c15,c16,c17,c18,c19,c20,c21,c22,c23]:List Value).drop (i * 8)).take 8) = some y:=fun i hi => by
  obtain ⟨y,hy⟩:=zfz (xs:=xs) (i:=i) (by omega)
  exact ⟨y,by rw [← hy,← hx i hi,Tryz.cells_spotS]⟩
 obtain ⟨_,q0⟩:=hq 0 (by decide)
 obtain ⟨_,q1⟩:=hq 1 (by decide)
 obtain ⟨_,q2⟩:=hq 2 (by decide)
 obtain ⟨r0,r1,r2,r3,a0,a1,a2,a3,n0,n1,n2,n3,⟨rfl,rfl,rfl,rfl,rfl,rfl,rfl,rfl⟩,u0,u1,u2,u3⟩:=z8d (c0:=c0) (c1:=c1) (c2:=c2) (c3:=c3) (c4:=c4) (c5:=c5) (c6:=c6) (c7:=c7) q0
 obtain ⟨r4,r5,r6,r7,a4,a5,a6,a7,n4,n5,n6,n7,⟨rfl,rfl,rfl,rfl,rfl,rfl,rfl,rfl⟩,u4,u5,u6,u7⟩:=z8d (c0:=c8) (c1:=c9) (c2:=c10) (c3:=c11) (c4:=c12) (c5:=c13) (c6:=c14) (c7:=c15) q1
 obtain ⟨r8,r9,r10,r11,a8,a9,a10,a11,n8,n9,n10,n11,⟨rfl,rfl,rfl,rfl,rfl,rfl,rfl,rfl⟩,u8,u9,u10,u11⟩:=z8d (c0:=c16) (c1:=c17) (c2:=c18) (c3:=c19) (c4:=c20) (c5:=c21) (c6:=c22) (c7:=c23) q2
 refine ⟨⟨fun k => match k with | 0 => r0.neg | 1 => r2.neg | 2 => r4.neg | 3 => r6.neg | 4 => r8.neg | _ => r10.neg,
  fun k => match k with | 0 => a0 | 1 => a2 | 2 => a4 | 3 => a6 | 4 => a8 | _ => a10,
  fun k => match k with | 0 => r0.mag.length | 1 => r2.mag.length | 2 => r4.mag.length | 3 => r6.mag.length | 4 => r8.mag.length | _ => r10.mag.length,
  fun k => match k with | 0 => n0 | 1 => n2 | 2 => n4 | 3 => n6 | 4 => n8 | _ => n10,
  fun k => match k with | 0 => r1.neg | 1 => r3.neg | 2 => r5.neg | 3 => r7.neg | 4 => r9.neg | _ => r11.neg,
  fun k => match k with | 0 => a1 | 1 => a3 | 2 => a5 | 3 => a7 | 4 => a9 | _ => a11,
  fun k => match k with | 0 => r1.mag.length | 1 => r3.mag.length | 2 => r5.mag.length | 3 => r7.mag.length | 4 => r9.mag.length | _ => r11.mag.length,
  fun k => match k with | 0 => n1 | 1 => n3 | 2 => n5 | 3 => n7 | 4 => n9 | _ => n11,
  fun k => match k with | 0 => (r0,r1) | 1 => (r2,r3) | 2 => (r4,r5) | 3 => (r6,r7) | 4 => (r8,r9) | _ => (r10,r11)⟩,?_,?_⟩
 ·show Value.agg cs = _
  have e:cs = (cs.toList).toArray:=by simp
  rw [e,hl]
  rfl
 ·constructor <;> intro k hk <;> rcases (show k = 0 ∨ k = 1 ∨ k = 2 ∨ k = 3 ∨ k = 4 ∨ k = 5 by omega) with rfl | rfl | rfl | rfl | rfl | rfl <;> first | rfl | assumption
end
end
section
end
end Go.Proofs.YtbfflodidkfphaaGreat
