/- ChainRests holds: powers, cofactors and rest of any polynomial by any chain, or why it ended, and what a meter has counted, are the document's, and so is the rest alone; the law answers true, and its arguments read as they did. No condition. -/
import Derived.Test.YthdcaablomgboaaGreatRs11
set_option maxRecDepth 100000
set_option maxHeartbeats 16000000
namespace Go.Proofs.YthdcaablomgboaaGreat
section
open Go.RowKit Go.Deep
def nx : Code → Code
 | .seq _ b => b
 | c => c
def nxN : Nat → Code → Code
 | 0, c => c
 | n + 1, c => nxN n (nx c)
theorem zq4 {P : Program} {c c' : Code} {Q : Exit → Act → World → Prop} {a : Act} {w : World} (e : c' = c) (h : Code.wp P c Q a w) : Code.wp P c' Q a w := e ▸ h
theorem MeterAt.blk {w w' : World} {b : Nat} {s : MSt} (h : MeterAt w b s) (e : w'.heap[b]? = w.heap[b]?) : MeterAt w' b s := by
 have hc : ∀ i, w'.cell? ⟨b, i, none⟩ = w.cell? ⟨b, i, none⟩ := fun i => World.cell?_of_block e
 exact ⟨(hc _).trans h.c0, (hc _).trans h.c1, (hc _).trans h.c2, (hc _).trans h.c3, (hc _).trans h.c4, (hc _).trans h.c5, (hc _).trans h.c6, (hc _).trans h.c7, (hc _).trans h.c8, (hc _).trans h.c9, (hc _).trans h.c10, fun i => (World.frozen?_of_block (w := w) (a := ⟨b, i, none⟩) e).trans (h.fz i)⟩
theorem RefAt.blk {w w' : World} {b : Nat} {s : MSt} (h : RefAt w b s) (e : w'.heap[b]? = w.heap[b]?) : RefAt w' b s := by
 have hc : ∀ i, w'.cell? ⟨b, i, none⟩ = w.cell? ⟨b, i, none⟩ := fun i => World.cell?_of_block e
 exact ⟨(hc _).trans h.c0, (hc _).trans h.c1, (hc _).trans h.c2, (hc _).trans h.c3, (hc _).trans h.c4, (hc _).trans h.c5, (hc _).trans h.c6, (hc _).trans h.c7, fun i => (World.frozen?_of_block (w := w) (a := ⟨b, i, none⟩) e).trans (h.fz i)⟩
theorem zq5 {o : Option Nat} {w : Bool} {ls : List PZ} : ∀ (k : Nat) (s : MSt) (r : PZ) (ns : List Int) (cs : List PZ), (z24 o w ls k s r ns cs).1 = 0 → (z24 o w ls k s r ns cs).2.2.2.2.length = cs.length := by
 intro k
 induction k with
 | zero => intros; rfl
 | succ k ih =>
  intro s r ns cs
  rw [z24]
  split
  ·intro h; rename_i h1; exact absurd h h1
  ·rename_i h1
   intro h
   rw [ih _ _ _ _ h, zdk (Decidable.not_not.1 h1)]
abbrev z2v : Obj := .cells #[.slice none 0 0, .slice none 0 0, .slice none 0 0] 37
def zcf (S : Nat → Prop) (W : World) (o : Option Nat) (s : MSt) (xe : Int) (r : PZ) (ns : List Int) (cs : List PZ) (np nc nr : Nat) : Ending → World → Prop := fun e W' =>
 ∃ ap cp ac cc ar cr, e = .returned (.tuple #[.agg #[.slice ap np cp, .slice ac nc cc, .slice ar nr cr], .int .i64 xe]) ∧ RMV W' o s ∧ W.grownBy W' o ∧ RQ S W W' (.slice ar nr cr) r ∧ Ints (New W W') W' (.slice ap np cp) ns ∧ RPs (Plus S W W') W' (.slice ac nc cc) cs
theorem zq6 {S : Nat → Prop} {W : World} {o : Option Nat} {X : Int × MSt × PZ × List Int × List PZ} {e : Ending} {W' : World} (h : zev S W o X e W') : zcf S W o X.2.1 X.1 X.2.2.1 X.2.2.2.1 X.2.2.2.2 X.2.2.2.1.length X.2.2.2.2.length X.2.2.1.length e W' := by
 obtain ⟨vp, vc, vr, he, hm, hg, hr, hp, hc⟩ := h
 obtain ⟨ap, cp, rfl⟩ := hp.form
 obtain ⟨ac, cc, rfl⟩ := hc.form
 obtain ⟨ar, cr, rfl⟩ := hr.form
 exact ⟨ap, cp, ac, cc, ar, cr, he, hm, hg, hr, hp, hc⟩
structure RDiv16 (S : Nat → Prop) (wc : World) (o : Option Nat) (s : MSt) (r : PZ) (ns : List Int) (cs : List PZ) (ap : Option Addr) (np cp : Nat) (ac : Option Addr) (nc cc : Nat) (ar : Option Addr) (nr cr : Nat) (wx : World) (bx : Nat) : Prop where
 b0 : wc.heap.size ≤ bx
 c0 : wx.cell? ⟨bx, 0, none⟩ = some (.slice ap np cp)
 c1 : wx.cell? ⟨bx, 1, none⟩ = some (.slice ac nc cc)
 c2 : wx.cell? ⟨bx, 2, none⟩ = some (.slice ar nr cr)
 mt : RMV wx o s
 gr : wc.grownBy wx o
 R : RTs (fun i => S i ∨ (wc.heap.size ≤ i ∧ i < wx.heap.size)) wx (.slice ar nr cr) r
 P : Ints (fun i => S i ∨ (wc.heap.size ≤ i ∧ i < wx.heap.size)) wx (.slice ap np cp) ns
 C : RPs (fun i => S i ∨ (wc.heap.size ≤ i ∧ i < wx.heap.size)) wx (.slice ac nc cc) cs
section
variable {S : Nat → Prop} {wc Y u : World} {o : Option Nat} {s : MSt} {r : PZ} {ns : List Int} {cs : List PZ} {ap ac ar : Option Addr} {np cp nc cc nr cr : Nat}
theorem zh0 (_ho : ∀ b, o = some b → b < wc.heap.size) (hg : wc.drew.grownBy u o) (hm : RMV u o s) (hr : RQ S wc.drew u (.slice ar nr cr) r) (hp : Ints (New wc.drew u) u (.slice ap np cp) ns) (hc : RPs (Plus S wc.drew u) u (.slice ac nc cc) cs) (hS : ∀ i, S i → i < wc.heap.size) :
  RDiv16 S wc o s r ns cs ap np cp ac nc cc ar nr cr (u.alloc (.cells #[.slice ap np cp, .slice ac nc cc, .slice ar nr cr] 37)) u.heap.size := by
 have hx := Ext.alloc (Ext.refl u) (.cells #[.slice ap np cp, .slice ac nc cc, .slice ar nr cr] 37)
 have hz : wc.heap.size ≤ u.heap.size := hg.size
 have hpl : ∀ i, Plus S wc.drew u i → i < u.heap.size := fun i hi => by
  rcases hi with h | h
  ·exact Nat.lt_of_lt_of_le (hS i h) hz
  ·exact h.2
 have hin : ∀ i, Plus S wc.drew u i → S i ∨ (wc.heap.size ≤ i ∧ i < (u.alloc (.cells #[.slice ap np cp, .slice ac nc cc, .slice ar nr cr] 37)).heap.size) := fun i hi => by
  rcases hi with h | h
  ·exact .inl h
  ·exact .inr ⟨h.1, Nat.lt_of_lt_of_le h.2 hx.size⟩
 refine ⟨hz, z01 _ _ _ rfl rfl, z01 _ _ _ rfl rfl, z01 _ _ _ rfl rfl, fun b hb => ⟨(hm b hb).1.grown (z07 hx none) (by simp), (hm b hb).2⟩, ?_, hr.to (Kept.ext hx hpl) hin, hp.to (Kept.ext hx (fun _ h => h.2)) (fun i h => hin i (.inr h)), hc.to (Kept.ext hx hpl) hin⟩
 exact ⟨hx.os.trans hg.os, hx.tape.trans hg.tape, hx.output.trans hg.output, Nat.le_trans hz hx.size, fun k h1 h2 => (hx.block k (Nat.lt_of_lt_of_le h1 hz)).trans (hg.block k h1 h2)⟩
theorem RDiv16.drew {wx : World} {bx : Nat} (h : RDiv16 S wc o s r ns cs ap np cp ac nc cc ar nr cr wx bx) : RDiv16 S wc o s r ns cs ap np cp ac nc cc ar nr cr wx.drew bx :=
 ⟨h.b0, h.c0, h.c1, h.c2, fun b hb => ⟨(h.mt b hb).1.grown (r := none) (zb4 (z26 wx none)) (by simp), (h.mt b hb).2⟩, ⟨h.gr.os, h.gr.tape, h.gr.output, h.gr.size, h.gr.block⟩, h.R.to (fun _ _ => rfl) (fun _ h => h), h.P.to (fun _ _ => rfl) (fun _ h => h), h.C.to (fun _ _ => rfl) (fun _ h => h)⟩
theorem zjp (ho : ∀ b, o = some b → b < wc.heap.size) (hg : ((wc.alloc z2v).drew).grownBy u o) (hm : RMV u o s) (hr : RQ S (wc.alloc z2v).drew u (.slice ar nr cr) r) (hp : Ints (New (wc.alloc z2v).drew u) u (.slice ap np cp) ns) (hc : RPs (Plus S (wc.alloc z2v).drew u) u (.slice ac nc cc) cs) (hS : ∀ i, S i → i < wc.heap.size) :
  RDiv16 S wc o s r ns cs ap np cp ac nc cc ar nr cr (st3 u wc.heap.size (.slice ap np cp) (.slice ac nc cc) (.slice ar nr cr)) wc.heap.size := by
 have hz1 : wc.heap.size < (wc.alloc z2v).drew.heap.size := by show wc.heap.size < (wc.alloc z2v).heap.size; rw [z02]; exact Nat.lt_succ_self _
 have hz : wc.heap.size < u.heap.size := Nat.lt_of_lt_of_le hz1 hg.size
 have hbl := hg.block wc.heap.size hz1 (fun e => by have := ho _ e.symm; omega)
 have k0 : u.cell? ⟨wc.heap.size, 0, none⟩ = some (.slice none 0 0) := (World.cell?_of_block hbl).trans (z01 wc _ _ rfl rfl)
 have k1 : u.cell? ⟨wc.heap.size, 1, none⟩ = some (.slice none 0 0) := (World.cell?_of_block hbl).trans (z01 wc _ _ rfl rfl)
 have k2 : u.cell? ⟨wc.heap.size, 2, none⟩ = some (.slice none 0 0) := (World.cell?_of_block hbl).trans (z01 wc _ _ rfl rfl)
 have hsz : (st3 u wc.heap.size (.slice ap np cp) (.slice ac nc cc) (.slice ar nr cr)).heap.size = u.heap.size := by unfold st3; rw [z0s, z0s, z0s]
 have hnew : ∀ i, New (wc.alloc z2v).drew u i → i ≠ wc.heap.size := fun i hi e => by have := hi.1; omega
 have hpl : ∀ i, Plus S (wc.alloc z2v).drew u i → i ≠ wc.heap.size := fun i hi => by
  rcases hi with h | h
  ·have := hS i h; omega
  ·exact hnew i h
 have hin : ∀ i, Plus S (wc.alloc z2v).drew u i → S i ∨ (wc.heap.size ≤ i ∧ i < (st3 u wc.heap.size (.slice ap np cp) (.slice ac nc cc) (.slice ar nr cr)).heap.size) := fun i hi => by
  rcases hi with h | h
  ·exact .inl h
  ·exact .inr ⟨by have := h.1; omega, by rw [hsz]; exact h.2⟩
 refine ⟨Nat.le_refl _, zep k0, zeq k1, zer k2, zi5 hm ho, ?_, hr.to (fun i hi => z1w (hpl i hi)) hin, hp.to (fun i hi => z1w (hnew i hi)) (fun i h => hin i (.inr h)), hc.to (fun i hi => z1w (hpl i hi)) hin⟩
 refine ⟨hg.os, hg.tape, hg.output, by rw [hsz]; omega, fun k h1 h2 => ?_⟩
 rw [z1w (by omega)]
 refine (hg.block k (Nat.lt_trans h1 hz1) h2).trans ?_
 exact (Ext.alloc (Ext.refl wc) z2v).block k h1
theorem zu0 {wc u : World} {o : Option Nat} (hg : ((wc.alloc z2v).drew).grownBy u o) (ho : ∀ b, o = some b → b < wc.heap.size) :
  u.cell? ⟨wc.heap.size, 0, none⟩ = some (.slice none 0 0) ∧ u.cell? ⟨wc.heap.size, 1, none⟩ = some (.slice none 0 0) ∧ u.cell? ⟨wc.heap.size, 2, none⟩ = some (.slice none 0 0) ∧ (∀ i, u.frozen? ⟨wc.heap.size, i, none⟩ = false) := by
 have hlt : wc.heap.size < ((wc.alloc z2v).drew).heap.size := by show wc.heap.size < (wc.alloc z2v).heap.size; rw [z02]; exact Nat.lt_succ_self _
 have e := hg.block wc.heap.size hlt (fun e => by have := ho _ e.symm; omega)
 exact ⟨(World.cell?_of_block e).trans (z01 wc _ _ rfl rfl), (World.cell?_of_block e).trans (z01 wc _ _ rfl rfl), (World.cell?_of_block e).trans (z01 wc _ _ rfl rfl), fun i => (World.frozen?_of_block (w := (wc.alloc z2v).drew) (a := ⟨wc.heap.size, i, none⟩) e).trans (z2r wc _ _)⟩
end
end
section
open Go.RowKit Go.Deep
theorem zq7 {W wF : World} {a b c d xe ze : Int} {af al ap ac ar ap2 ar2 ap4 ac4 ar4 ap5 ac5 ar5 aw : Option Addr} {nf cf nl cl nw cw np cp nc cc nr cr np2 cp2 nr2 cr2 npX cp4 ncX cc4 nrX cr4 npZ cp5 ncZ cc5 nrZ cr5 bu bv bd b14 b15 k k' : Nat} {l : List (List RTerm)} {sX sZ : MSt} {rX rZ : PZ} {nX nZ : List Int} {cX : List PZ}
  {u24 u25 u26 u27 u28 u29 u30 u31 u32 u33 u34 u35 u36 u37 u38 u39 u40 u41 u42 u43 u44 u45 u46 u47 u48 u49 u50 u51 u52 u53 u54 u55 u56 u57 u58 u59 u60 u61 u62 u63 u64 u65 u66 u67 u68 u69 u70 u71 u72 u73 u74 u75 u76 u77 u78 u79 u80 u81 u82 u83 u84 u85 u86 u87 u88 u89 u90 u91 u92 u93 u94 u95 u96 u97 u98 u99 u100 u101 u102 u103 u104 u105 u106 u107 u108 u109 u110 u111 u112 u113 u114 u115 u116 u117 u118 u119 u120 u121 u122 u123 u124 u125 u126 u127 u128 u129 u130 u131 u132 u133 u134 u135 u136 u137 u138 u139 u140 u141 u142 u143 u144 u145 u146 u147 u148 u149 u150 u151 u152 u153 u154 u155 u156 u157 u158 u159 u160 u161 u162 u163 u164 u165 u166 u167 u168 u169 u170 u171 u172 u173 u174 u175 u176 u177 u178 u179 u180 u181 u182 u183 u184 u185 u186 u187 u188 u189 u190 u191 u192 u193 u194 u195 u196 u197 u198 u199 u200 u201 u202 u203 u204 u205 u206 u207 u208 u209 u210 u211 u212 u213 u214 u215 u216 u217 u218 u219 u220 u221 u222 : Value}
  (hWF : Ext W wF) (hc0 : wF.cell? ⟨bd, 0, none⟩ = some (.slice ap np cp)) (hc1 : wF.cell? ⟨bd, 1, none⟩ = some (.slice ac nc cc)) (hc2 : wF.cell? ⟨bd, 2, none⟩ = some (.slice ar nr cr))
  (hx0 : wF.cell? ⟨b14, 0, none⟩ = some (.slice ap4 npX cp4)) (hx1 : wF.cell? ⟨b14, 1, none⟩ = some (.slice ac4 ncX cc4)) (hx2 : wF.cell? ⟨b14, 2, none⟩ = some (.slice ar4 nrX cr4))
  (hy0 : wF.cell? ⟨b15, 0, none⟩ = some (.slice ap5 npZ cp5)) (hy1 : wF.cell? ⟨b15, 1, none⟩ = some (.slice ac5 ncZ cc5)) (hy2 : wF.cell? ⟨b15, 2, none⟩ = some (.slice ar5 nrZ cr5))
  (hDP : Ints (Old wF) wF (.slice ap np cp) nX) (hDC : PVL wF (.slice ac nc cc) cX) (hDR : PV wF (.slice ar nr cr) rX)
  (hZR : PV wF (.slice ar2 nr2 cr2) rZ) (hZP : Ints (Old wF) wF (.slice ap2 np2 cp2) nZ)
  (hEP : Ints (Old wF) wF (.slice ap4 npX cp4) nX) (hEC : RPs (Old wF) wF (.slice ac4 ncX cc4) cX) (hER : RV wF (.slice ar4 nrX cr4) rX)
  (hGP : Ints (Old wF) wF (.slice ap5 npZ cp5) nZ) (hGR : RV wF (.slice ar5 nrZ cr5) rZ)
  (hFL : z16 (Old wF) wF (.slice al nl cl) l) (hsl : z55 l) (hmc : mayC 0 l = true)
  (hM1 : MeterAt wF k sX) (hM2 : MeterAt wF k' sZ) (hR1 : RefAt wF bu sX) (hR2 : RefAt wF bv sZ)
  (hXok : xe = 0 → Fit 50 100000 rX ∧ ∀ p ∈ cX, Fit 50 100000 p) (hZok : ze = 0 → Fit 50 100000 rZ) :
  Code.wp Tryz.prog (nxN 13 (Tryz.f5.body.getD .ret)) (bodyPost Tryz.prog Tryz.f5 fun e W' => e = .returned (.bool true) ∧ Ext W W')
   { tmps := #[.slice af nf cf, .slice al nl cl, .agg #[.int .i64 a, .int .i64 b, .int .i64 c, .int .i64 d], undef, undef, .pointer (some ⟨W.heap.size, 0, none⟩), .bool false, .pointer (some ⟨k, 0, none⟩), .int .i64 0, .slice aw nw cw, .bool true, .pointer (some ⟨k', 0, none⟩), .int .i64 0, .pointer (some ⟨bd, 0, none⟩), .int .i64 xe, .slice ar2 nr2 cr2, .slice ap2 np2 cp2, .int .i64 ze, .pointer (some ⟨bu, 0, none⟩), .pointer (some ⟨bv, 0, none⟩), .pointer (some ⟨b14, 0, none⟩), .int .i64 xe, .pointer (some ⟨b15, 0, none⟩), .int .i64 ze, u24, u25, u26, u27, u28, u29, u30, u31, u32, u33, u34, u35, u36, u37, u38, u39, u40, u41, u42, u43, u44, u45, u46, u47, u48, u49, u50, u51, u52, u53, u54, u55, u56, u57, u58, u59, u60, u61, u62, u63, u64, u65, u66, u67, u68, u69, u70, u71, u72, u73, u74, u75, u76, u77, u78, u79, u80, u81, u82, u83, u84, u85, u86, u87, u88, u89, u90, u91, u92, u93, u94, u95, u96, u97, u98, u99, u100, u101, u102, u103, u104, u105, u106, u107, u108, u109, u110, u111, u112, u113, u114, u115, u116, u117, u118, u119, u120, u121, u122, u123, u124, u125, u126, u127, u128, u129, u130, u131, u132, u133, u134, u135, u136, u137, u138, u139, u140, u141, u142, u143, u144, u145, u146, u147, u148, u149, u150, u151, u152, u153, u154, u155, u156, u157, u158, u159, u160, u161, u162, u163, u164, u165, u166, u167, u168, u169, u170, u171, u172, u173, u174, u175, u176, u177, u178, u179, u180, u181, u182, u183, u184, u185, u186, u187, u188, u189, u190, u191, u192, u193, u194, u195, u196, u197, u198, u199, u200, u201, u202, u203, u204, u205, u206, u207, u208, u209, u210, u211, u212, u213, u214, u215, u216, u217, u218, u219, u220, u221, u222], defers := [] } wF := by
 have hnot : ∀ (x : Bool) (w : World), (Op.unary .not (.bool x)).run Tryz.prog w = .ok (.bool (!x)) w := fun _ _ => rfl
 have HWF := hid hWF
 have HCD := hid (And.intro hc0 (And.intro hc1 hc2))
 have HCX := hid (And.intro hx0 (And.intro hx1 hx2))
 have HCY := hid (And.intro hy0 (And.intro hy1 hy2))
 have HDP := hid hDP
 have HDC := hid hDC
 have HDR := hid hDR
 have HZR := hid hZR
 have HZP := hid hZP
 have HEP := hid hEP
 have HEC := hid hEC
 have HER := hid hER
 have HGP := hid hGP
 have HGR := hid hGR
 have HM1 := hid hM1
 have HM2 := hid hM2
 have HXO := hid hXok
 have HZO := hid hZok
 obtain ⟨x1, hx1'⟩ : ∃ z, z = sX.st := ⟨_, rfl⟩
 obtain ⟨x2, hx2'⟩ : ∃ z, z = sX.wh := ⟨_, rfl⟩
 obtain ⟨x3, hx3'⟩ : ∃ z, z = sX.nn := ⟨_, rfl⟩
 obtain ⟨y1, hy1'⟩ : ∃ z, z = sZ.st := ⟨_, rfl⟩
 obtain ⟨y2, hy2'⟩ : ∃ z, z = sZ.wh := ⟨_, rfl⟩
 obtain ⟨y3, hy3'⟩ : ∃ z, z = sZ.nn := ⟨_, rfl⟩
 have HFu1 : Hid (∀ Y, Ext wF Y → Calls Tryz.prog 22 #[.pointer (some ⟨k, 0, none⟩)] Y fun e w' => e = .returned (.int .i64 x1) ∧ Ext Y w') := hid (fun Y hY => (zig k sX Y (HM1.out.kept hY (z09 HM1.out.c0))).mono (by rw [hx1']; rintro e w' ⟨rfl, rfl⟩; exact ⟨rfl, Ext.refl _⟩))
 have HFu2 : Hid (∀ Y, Ext wF Y → Calls Tryz.prog 22 #[.pointer (some ⟨k', 0, none⟩)] Y fun e w' => e = .returned (.int .i64 y1) ∧ Ext Y w') := hid (fun Y hY => (zig k' sZ Y (HM2.out.kept hY (z09 HM2.out.c0))).mono (by rw [hy1']; rintro e w' ⟨rfl, rfl⟩; exact ⟨rfl, Ext.refl _⟩))
 have HNe1 : Hid (∀ Y, Ext wF Y → Calls Tryz.prog 23 #[.pointer (some ⟨k, 0, none⟩)] Y fun e w' => e = .returned (.agg #[.int .i64 x2, .int .i64 x3]) ∧ Ext Y w') := hid (fun Y hY => by rw [hx2', hx3']; exact zih k sX Y (HM1.out.kept hY (z09 HM1.out.c0)))
 have HNe2 : Hid (∀ Y, Ext wF Y → Calls Tryz.prog 23 #[.pointer (some ⟨k', 0, none⟩)] Y fun e w' => e = .returned (.agg #[.int .i64 y2, .int .i64 y3]) ∧ Ext Y w') := hid (fun Y hY => by rw [hy2', hy3']; exact zih k' sZ Y (HM2.out.kept hY (z09 HM2.out.c0)))
 have HMy : Hid (∀ Y, Ext wF Y → Calls Tryz.prog 13 #[.slice al nl cl] Y fun e w' => e = .returned (.bool true) ∧ Ext Y w') := hid (fun Y hY => by
  have h := z40 (S := Old Y) (.slice al nl cl) l Y (z16.on hFL hY) (fun _ h => h) hsl
  rwa [hmc] at h)
 have r1 := hR1.c4
 have r2 := hR1.c6
 have r3 := hR1.c7
 have r4 := hR2.c4
 have r5 := hR2.c6
 have r6 := hR2.c7
 rw [← hx1'] at r1
 rw [← hx2'] at r2
 rw [← hx3'] at r3
 rw [← hy1'] at r4
 rw [← hy2'] at r5
 rw [← hy3'] at r6
 have HSA := hid (fun (hz : xe = 0) (Y : World) (hY : Ext wF Y) => (show Calls Tryz.prog 24 #[.agg #[.slice ap np cp, .slice ac nc cc, .slice ar nr cr], .agg #[.slice ap4 npX cp4, .slice ac4 ncX cc4, .slice ar4 nrX cr4]] Y fun e w' => e = .returned (.bool true) ∧ Ext Y w' from
  zlx (HDP.out.to (Kept.ext hY (fun _ h => h)) (z5l hY)) (z16.on HDC.out hY) (z05.on HDR.out hY) (HEP.out.to (Kept.ext hY (fun _ h => h)) (z5l hY)) (RPs.on HEC.out hY) (RTs.on HER.out hY) (HXO.out hz).1 (HXO.out hz).2 (by decide) (by decide)))
 have HPO := hid (fun (hz : ze = 0) (Y : World) (hY : Ext wF Y) => zei (RTs.on HGR.out hY) (HZO.out hz) (show 50 ≤ 90000 by decide) (show 100000 ≤ 1000000000000 by decide))
 have HPS := hid (fun (Y Z : World) (v : Value) (hY : Ext wF Y) (hv : PV Y v rZ) (hZ : Ext Y Z) => (show Calls Tryz.prog 25 #[.slice ar2 nr2 cr2, v] Z fun e w' => e = .returned (.bool true) ∧ Ext Z w' from by
  have h := z7n _ v (ofP rZ) (ofP rZ) Z (z05.on HZR.out (hY.trans hZ)) (z05.on hv hZ) (fun _ h => h)
  rwa [decide_eq_true rfl] at h))
 have HIN := hid (fun (Y : World) (hY : Ext wF Y) => (show Calls Tryz.prog 18 #[.slice ap2 np2 cp2, .slice ap5 npZ cp5] Y fun e w' => e = .returned (.bool true) ∧ Ext Y w' from (zdo (HZP.out.to (Kept.ext hY (fun _ h => h)) (z5l hY)) (HGP.out.to (Kept.ext hY (fun _ h => h)) (z5l hY))).mono (by rintro e w' ⟨rfl, hx⟩; exact ⟨by simp, hx⟩)))
 clear hWF hc0 hc1 hc2 hx0 hx1 hx2 hy0 hy1 hy2 hDP hDC hDR hZR hZP hEP hEC hER hGP hGR hFL hsl hmc hM1 hM2 hR1 hR2 hXok hZok hx1' hx2' hx3' hy1' hy2' hy3'
 have L1 := fun Y : Later wF => Y.h.cell r1
 have L2 := fun Y : Later wF => Y.h.cell r2
 have L3 := fun Y : Later wF => Y.h.cell r3
 have L4 := fun Y : Later wF => Y.h.cell r4
 have L5 := fun Y : Later wF => Y.h.cell r5
 have L6 := fun Y : Later wF => Y.h.cell r6
 clear r1 r2 r3 r4 r5 r6
 conv => arg 2; dsimp only [nxN, nx, Tryz.f5, Option.getD]
 conv => arg 4; dsimp only
 go_wp2
 refine z03 (by kernel_rfl) (by kernel_rfl) ?_
 repeat (go_big_quiet_step (first | (go_at_call 22; first | (with_reducible exact Later.done (HFu1.out _ (Later.h _))) | (with_reducible exact Later.done (HFu2.out _ (Later.h _)))) | (go_at_call 23; first | (with_reducible exact Later.done (HNe1.out _ (Later.h _))) | (with_reducible exact Later.done (HNe2.out _ (Later.h _)))) | (go_at_call 13; with_reducible exact Later.done (HMy.out _ (Later.h _)))))
 refine wpQuiet_nil ?_
 intro w16 hx16
 have HX16 := hid hx16
 clear L1 L2 L3 L4 L5 L6 hx16
 by_cases hxe : xe = 0
 ·subst hxe
  have HSA0 := hid (HSA.out rfl)
  clear HSA
  by_cases hze : ze = 0
  ·subst hze
   have HPO0 := hid (HPO.out rfl)
   clear HPO
   have c0 := HX16.out.cell HCD.out.1
   have c1 := HX16.out.cell HCD.out.2.1
   have c2 := HX16.out.cell HCD.out.2.2
   have d0 := HX16.out.cell HCX.out.1
   have d1 := HX16.out.cell HCX.out.2.1
   have d2 := HX16.out.cell HCX.out.2.2
   go_wp2_with fail
   with_reducible refine (HSA0.out _ HX16.out).mono ?_
   rintro e w17 ⟨rfl, hx17⟩
   have HX17 := hid (HX16.out.trans hx17)
   clear hx17 c0 c1 c2 d0 d1 d2
   have e0 := HX17.out.cell HCY.out.1
   have e1 := HX17.out.cell HCY.out.2.1
   have e2 := HX17.out.cell HCY.out.2.2
   go_wp2_with fail
   with_reducible refine (HPO0.out _ HX17.out).mono ?_
   rintro e w18 ⟨v18, rfl, hv18, hx18⟩
   have HX18 := hid (HX17.out.trans hx18)
   have HV18 := hid hv18
   clear hv18 hx18 e0 e1 e2
   have e0 := HX18.out.cell HCY.out.1
   have e1 := HX18.out.cell HCY.out.2.1
   have e2 := HX18.out.cell HCY.out.2.2
   go_wp2_with fail
   with_reducible refine (HPS.out _ _ v18 HX18.out HV18.out (Ext.refl _)).mono ?_
   rintro e w19 ⟨rfl, hx19⟩
   have HX19 := hid (HX18.out.trans hx19)
   clear hx19 e0 e1 e2
   have e0 := HX19.out.cell HCY.out.1
   have e1 := HX19.out.cell HCY.out.2.1
   have e2 := HX19.out.cell HCY.out.2.2
   go_wp2_with fail
   with_reducible refine (HIN.out _ HX19.out).mono ?_
   rintro e w20 ⟨rfl, hx20⟩
   have HX20 := hid (HX19.out.trans hx20)
   clear hx20 e0 e1 e2
   go_wp2_with fail
   with_reducible refine (z2q _).mono ?_
   rintro e w21 ⟨rfl, hx21⟩
   have HX21 := hid (HWF.out.trans (HX20.out.trans hx21))
   clear hx21
   go_wp2
   all_goals
    go_ret
    exact ⟨rfl, HX21.out⟩
  ·have c0 := HX16.out.cell HCD.out.1
   have c1 := HX16.out.cell HCD.out.2.1
   have c2 := HX16.out.cell HCD.out.2.2
   have d0 := HX16.out.cell HCX.out.1
   have d1 := HX16.out.cell HCX.out.2.1
   have d2 := HX16.out.cell HCX.out.2.2
   go_wp2_with fail
   with_reducible refine (HSA0.out _ HX16.out).mono ?_
   rintro e w17 ⟨rfl, hx17⟩
   have HX17 := hid (HX16.out.trans hx17)
   clear hx17 c0 c1 c2 d0 d1 d2
   go_wp2_with fail
   with_reducible refine (z2q _).mono ?_
   rintro e w21 ⟨rfl, hx21⟩
   have HX21 := hid (HWF.out.trans (HX17.out.trans hx21))
   clear hx21
   go_wp2
   all_goals
    go_ret
    exact ⟨rfl, HX21.out⟩
 ·by_cases hze : ze = 0
  ·subst hze
   have HPO0 := hid (HPO.out rfl)
   clear HPO
   have e0 := HX16.out.cell HCY.out.1
   have e1 := HX16.out.cell HCY.out.2.1
   have e2 := HX16.out.cell HCY.out.2.2
   go_wp2_with fail
   with_reducible refine (HPO0.out _ HX16.out).mono ?_
   rintro e w18 ⟨v18, rfl, hv18, hx18⟩
   have HX18 := hid (HX16.out.trans hx18)
   have HV18 := hid hv18
   clear hv18 hx18 e0 e1 e2
   have e0 := HX18.out.cell HCY.out.1
   have e1 := HX18.out.cell HCY.out.2.1
   have e2 := HX18.out.cell HCY.out.2.2
   go_wp2_with fail
   with_reducible refine (HPS.out _ _ v18 HX18.out HV18.out (Ext.refl _)).mono ?_
   rintro e w19 ⟨rfl, hx19⟩
   have HX19 := hid (HX18.out.trans hx19)
   clear hx19 e0 e1 e2
   have e0 := HX19.out.cell HCY.out.1
   have e1 := HX19.out.cell HCY.out.2.1
   have e2 := HX19.out.cell HCY.out.2.2
   go_wp2_with fail
   with_reducible refine (HIN.out _ HX19.out).mono ?_
   rintro e w20 ⟨rfl, hx20⟩
   have HX20 := hid (HX19.out.trans hx20)
   clear hx20 e0 e1 e2
   go_wp2_with fail
   with_reducible refine (z2q _).mono ?_
   rintro e w21 ⟨rfl, hx21⟩
   have HX21 := hid (HWF.out.trans (HX20.out.trans hx21))
   clear hx21
   go_wp2
   all_goals
    go_ret
    exact ⟨rfl, HX21.out⟩
  ·go_wp2_with fail
   with_reducible refine (z2q _).mono ?_
   rintro e w21 ⟨rfl, hx21⟩
   have HX21 := hid (HWF.out.trans (HX16.out.trans hx21))
   clear hx21
   go_wp2
   all_goals
    go_ret
    exact ⟨rfl, HX21.out⟩
end
section
open Go.RowKit Go.Deep
theorem zly {W wB : World} {S : Nat → Prop} {a b c d xe ze : Int} {af al A a0 ap ac ar ap2 ar2 : Option Addr} {nf cf nl cl bw ow cw m0 c0 np cp nc cc nr cr np2 cp2 nr2 cr2 npX ncX nrX npZ ncZ nrZ bu bv bd k k' : Nat} {l : List (List RTerm)} {sX sZ : MSt} {rX rZ : PZ} {nX nZ : List Int} {cX cZ : List PZ}
  {u24 u25 u26 u27 u28 u29 u30 u31 u32 u33 u34 u35 u36 u37 u38 u39 u40 u41 u42 u43 u44 u45 u46 u47 u48 u49 u50 u51 u52 u53 u54 u55 u56 u57 u58 u59 u60 u61 u62 u63 u64 u65 u66 u67 u68 u69 u70 u71 u72 u73 u74 u75 u76 u77 u78 u79 u80 u81 u82 u83 u84 u85 u86 u87 u88 u89 u90 u91 u92 u93 u94 u95 u96 u97 u98 u99 u100 u101 u102 u103 u104 u105 u106 u107 u108 u109 u110 u111 u112 u113 u114 u115 u116 u117 u118 u119 u120 u121 u122 u123 u124 u125 u126 u127 u128 u129 u130 u131 u132 u133 u134 u135 u136 u137 u138 u139 u140 u141 u142 u143 u144 u145 u146 u147 u148 u149 u150 u151 u152 u153 u154 u155 u156 u157 u158 u159 u160 u161 u162 u163 u164 u165 u166 u167 u168 u169 u170 u171 u172 u173 u174 u175 u176 u177 u178 u179 u180 u181 u182 u183 u184 u185 u186 u187 u188 u189 u190 u191 u192 u193 u194 u195 u196 u197 u198 u199 u200 u201 u202 u203 u204 u205 u206 u207 u208 u209 u210 u211 u212 u213 u214 u215 u216 u217 u218 u219 u220 u221 u222 : Value}
  (hne : bu ≠ bv) (hbu : W.heap.size ≤ bu ∧ bu < wB.heap.size) (hbv : W.heap.size ≤ bv ∧ bv < wB.heap.size) (hWB : Ext W wB) (hS : ∀ i, S i → i < wB.heap.size ∧ i ≠ bu ∧ i ≠ bv)
  (CX : ∀ Y, Ext wB Y → Calls Tryz.prog 21 #[.pointer (some ⟨bu, 0, none⟩), .slice a0 m0 c0, .slice A nl (cw - 1), .bool true] Y (zcf S Y (some bu) sX xe rX nX cX npX ncX nrX))
  (CZ : ∀ Y, wB.grownBy Y (some bu) → Calls Tryz.prog 21 #[.pointer (some ⟨bv, 0, none⟩), .slice a0 m0 c0, .slice A nl (cw - 1), .bool false] Y (zcf S Y (some bv) sZ ze rZ nZ cZ npZ ncZ nrZ))
  (hA : A = if cw = 1 then some ⟨bw, ow, none⟩ else some ⟨bw, ow + 1, none⟩) (hcell : wB.cell? ⟨bw, ow, none⟩ = some (.slice a0 m0 c0)) (hbw : S bw) (hcap : nl + 1 ≤ cw) (hcapm : cw ≤ 9223372036854775807)
  (hbd : bd < wB.heap.size ∧ bd ≠ bu ∧ bd ≠ bv) (hc0 : wB.cell? ⟨bd, 0, none⟩ = some (.slice ap np cp)) (hc1 : wB.cell? ⟨bd, 1, none⟩ = some (.slice ac nc cc)) (hc2 : wB.cell? ⟨bd, 2, none⟩ = some (.slice ar nr cr))
  (hDP : Ints (fun i => i < wB.heap.size ∧ i ≠ bu ∧ i ≠ bv) wB (.slice ap np cp) nX) (hDC : z16 (fun i => i < wB.heap.size ∧ i ≠ bu ∧ i ≠ bv) wB (.slice ac nc cc) (cX.map ofP)) (hDR : z05 (fun i => i < wB.heap.size ∧ i ≠ bu ∧ i ≠ bv) wB (.slice ar nr cr) (ofP rX))
  (hZR : z05 (fun i => i < wB.heap.size ∧ i ≠ bu ∧ i ≠ bv) wB (.slice ar2 nr2 cr2) (ofP rZ)) (hZP : Ints (fun i => i < wB.heap.size ∧ i ≠ bu ∧ i ≠ bv) wB (.slice ap2 np2 cp2) nZ)
  (hFL : z16 (fun i => i < wB.heap.size ∧ i ≠ bu ∧ i ≠ bv) wB (.slice al nl cl) l) (hsl : z55 l) (hmc : mayC 0 l = true)
  (hM1 : MeterAt wB k sX) (hk : k ≠ bu ∧ k ≠ bv) (hM2 : MeterAt wB k' sZ) (hk' : k' ≠ bu ∧ k' ≠ bv)
  (hXok : xe = 0 → Fit 50 100000 rX ∧ ∀ p ∈ cX, Fit 50 100000 p) (hZok : ze = 0 → Fit 50 100000 rZ) :
  Code.wp Tryz.prog (nxN 11 (Tryz.f5.body.getD .ret)) (bodyPost Tryz.prog Tryz.f5 fun e W' => e = .returned (.bool true) ∧ Ext W W')
   { tmps := #[.slice af nf cf, .slice al nl cl, .agg #[.int .i64 a, .int .i64 b, .int .i64 c, .int .i64 d], undef, undef, .pointer (some ⟨W.heap.size, 0, none⟩), .bool false, .pointer (some ⟨k, 0, none⟩), .int .i64 0, .slice (some ⟨bw, ow, none⟩) (nl + 1) cw, .bool true, .pointer (some ⟨k', 0, none⟩), .int .i64 0, .pointer (some ⟨bd, 0, none⟩), .int .i64 xe, .slice ar2 nr2 cr2, .slice ap2 np2 cp2, .int .i64 ze, .pointer (some ⟨bu, 0, none⟩), .pointer (some ⟨bv, 0, none⟩), undef, undef, undef, undef, u24, u25, u26, u27, u28, u29, u30, u31, u32, u33, u34, u35, u36, u37, u38, u39, u40, u41, u42, u43, u44, u45, u46, u47, u48, u49, u50, u51, u52, u53, u54, u55, u56, u57, u58, u59, u60, u61, u62, u63, u64, u65, u66, u67, u68, u69, u70, u71, u72, u73, u74, u75, u76, u77, u78, u79, u80, u81, u82, u83, u84, u85, u86, u87, u88, u89, u90, u91, u92, u93, u94, u95, u96, u97, u98, u99, u100, u101, u102, u103, u104, u105, u106, u107, u108, u109, u110, u111, u112, u113, u114, u115, u116, u117, u118, u119, u120, u121, u122, u123, u124, u125, u126, u127, u128, u129, u130, u131, u132, u133, u134, u135, u136, u137, u138, u139, u140, u141, u142, u143, u144, u145, u146, u147, u148, u149, u150, u151, u152, u153, u154, u155, u156, u157, u158, u159, u160, u161, u162, u163, u164, u165, u166, u167, u168, u169, u170, u171, u172, u173, u174, u175, u176, u177, u178, u179, u180, u181, u182, u183, u184, u185, u186, u187, u188, u189, u190, u191, u192, u193, u194, u195, u196, u197, u198, u199, u200, u201, u202, u203, u204, u205, u206, u207, u208, u209, u210, u211, u212, u213, u214, u215, u216, u217, u218, u219, u220, u221, u222], defers := [] } wB := by
 have hnot : ∀ (x : Bool) (w : World), (Op.unary .not (.bool x)).run Tryz.prog w = .ok (.bool (!x)) w := fun _ _ => rfl
 have HNE := hid hne
 have HBUV := hid (And.intro hbu hbv)
 have HWB := hid hWB
 have HSS := hid hS
 have HCX := hid CX
 have HCZ := hid CZ
 have HA := hid hA
 have HCELL := hid hcell
 have HBW := hid (hS bw hbw)
 have HCD := hid (And.intro hc0 (And.intro hc1 hc2))
 have HBD := hid hbd
 have HDP := hid hDP
 have HDC := hid hDC
 have HDR := hid hDR
 have HZR := hid hZR
 have HZP := hid hZP
 have HFL := hid hFL
 have HSM := hid (And.intro hsl hmc)
 have HM1 := hid hM1
 have HM2 := hid hM2
 have HKK := hid (And.intro hk hk')
 have HXO := hid hXok
 have HZO := hid hZok
 have gw1 : (1 : Int) ≤ (nl : Int) + 1 := by omega
 have gw2 : (nl : Int) + 1 ≤ (cw : Int) := by omega
 have gw3 : (1 : Int) ≤ (cw : Int) := by omega
 have hAI : (if cw = 1 then (some ⟨bw, ow, none⟩ : Option Addr) else some ⟨bw, ow + 1, none⟩) = A := hA.symm
 have S0 := hcell
 have HBU : Hid (∀ j, some bu = some j → j < wB.heap.size) := hid (fun j hj => by cases hj; exact hbu.2)
 have HSlt : Hid (∀ i, S i → i < wB.heap.size) := hid (fun i hi => (hS i hi).1)
 have HFB : Hid (∀ Y, Ext wB Y → Y.cell? ⟨bw, ow, none⟩ = some (.slice a0 m0 c0)) := hid (fun Y hY => hY.cell hcell)
 have HC1 := hid (CX _ (Ext.refl wB).drew)
 have HC2 := hid (CX _ ((Ext.refl wB).alloc z2v).drew)
 clear hne hbu hbv hWB hS CX CZ hA hcell hbw hcap hbd hc0 hc1 hc2 hDP hDC hDR hZR hZP hFL hsl hmc hM1 hM2 hk hk' hXok hZok
 conv => arg 2; dsimp only [nxN, nx, Tryz.f5, Option.getD]
 conv => arg 4; dsimp only
 go_upto_region 14 with fail
 go_cut [20, 21] (fun sA sB wx => ∃ bx ap cp ac cc ar cr, sA = .pointer (some ⟨bx, 0, none⟩) ∧ sB = .int .i64 xe ∧ Hid (RDiv16 S wB (some bu) sX rX nX cX ap npX cp ac ncX cc ar nrX cr wx bx))
 case first =>
  go_region_held3 (fun Y => Y.cell? ⟨bw, ow, none⟩ = some (.slice a0 m0 c0)) (first | exact S0 | exact S1 | exact HFB.out _ ((Ext.refl wB).alloc z2v).drew | exact cell_old _ S1 | exact S2)
   (first
    | (go_at_call 21; with_reducible refine HC1.out.mono ?_
       rintro e u1 ⟨bp1, cp1, bc1, cc1, br1, cr1, rfl, hm, hg, hr, hp, hc⟩; have HD := hid (zh0 HBU.out hg hm hr hp hc HSlt.out); have S1 : u1.cell? ⟨bw, ow, none⟩ = some (.slice a0 m0 c0) := (World.cell?_of_block (hg.block bw HBW.out.1 (fun e => HBW.out.2.1 (Option.some.inj e)))).trans S0; clear hm hg hr hp hc)
    | (go_at_call 21; with_reducible refine HC2.out.mono ?_
       rintro e u1 ⟨bp1, cp1, bc1, cc1, br1, cr1, rfl, hm, hg, hr, hp, hc⟩; have HD := hid (zjp HBU.out hg hm hr hp hc HSlt.out); have HYL := zu0 hg HBU.out; obtain ⟨y0, y1, y2, yz⟩ := HYL; have z0 := yz 0; have z1 := yz 1; have z2 := yz 2; have S1 : u1.cell? ⟨bw, ow, none⟩ = some (.slice a0 m0 c0) := (World.cell?_of_block (hg.block bw (Nat.lt_of_lt_of_le HBW.out.1 ((Ext.refl wB).alloc z2v).drew.size) (fun e => HBW.out.2.1 (Option.some.inj e)))).trans (HFB.out _ ((Ext.refl wB).alloc z2v).drew); have S2 : (st3 u1 wB.heap.size (.slice bp1 npX cp1) (.slice bc1 ncX cc1) (.slice br1 nrX cr1)).cell? ⟨bw, ow, none⟩ = some (.slice a0 m0 c0) := (World.cell?_of_block (z1w (k := bw) (by have := HBW.out.1; omega))).trans S1; clear hm hg hr hp hc yz))
  all_goals
   go_wp2_with fail
   go_meet
   first
    | with_reducible exact ⟨_, _, _, _, _, _, _, rfl, rfl, HD⟩
    | exact ⟨_, _, _, _, _, _, _, rfl, rfl, hid HD.out⟩
 case rest =>
  obtain ⟨b14, ap4, cp4, ac4, cc4, ar4, cr4, rfl, rfl, HDX⟩ := hcut
  obtain ⟨wE, hwE⟩ : ∃ Y, Y = wc := ⟨_, rfl⟩
  subst hwE
  have HBV : Hid (∀ j, some bv = some j → j < wE.heap.size) := hid (fun j hj => by cases hj; exact Nat.lt_of_lt_of_le HBUV.out.2.2 HDX.out.gr.size)
  have HBWe : Hid (bw < wE.heap.size ∧ bw ≠ bu ∧ bw ≠ bv) := hid ⟨Nat.lt_of_lt_of_le HBW.out.1 HDX.out.gr.size, HBW.out.2⟩
  have HSe : Hid (∀ i, S i → i < wE.heap.size) := hid (fun i hi => Nat.lt_of_lt_of_le (HSlt.out i hi) HDX.out.gr.size)
  have S0e : wE.cell? ⟨bw, ow, none⟩ = some (.slice a0 m0 c0) := (World.cell?_of_block (HDX.out.gr.block bw HBW.out.1 (fun e => HBW.out.2.1 (Option.some.inj e)))).trans S0
  have HFBe : Hid (∀ Y, Ext wE Y → Y.cell? ⟨bw, ow, none⟩ = some (.slice a0 m0 c0)) := hid (fun Y hY => hY.cell S0e)
  have HC3 := hid (HCZ.out _ (z06 HDX.out.gr (z07 (Ext.refl wE).drew _)))
  have HC4 := hid (HCZ.out _ (z06 HDX.out.gr (z07 ((Ext.refl wE).alloc z2v).drew _)))
  clear S0
  go_upto_region 15 with fail
  go_cut [22, 23] (fun sA sB wx => ∃ bx ap cp ac cc ar cr, sA = .pointer (some ⟨bx, 0, none⟩) ∧ sB = .int .i64 ze ∧ Hid (RDiv16 S wE (some bv) sZ rZ nZ cZ ap npZ cp ac ncZ cc ar nrZ cr wx bx))
  case first =>
   go_region_held3 (fun Y => Y.cell? ⟨bw, ow, none⟩ = some (.slice a0 m0 c0)) (first | exact S0e | exact S1 | exact HFBe.out _ ((Ext.refl wE).alloc z2v).drew | exact cell_old _ S1 | exact S2)
    (first
     | (go_at_call 21; with_reducible refine HC3.out.mono ?_
        rintro e u1 ⟨bp1, cp1, bc1, cc1, br1, cr1, rfl, hm, hg, hr, hp, hc⟩; have HD := hid (zh0 HBV.out hg hm hr hp hc HSe.out); have S1 : u1.cell? ⟨bw, ow, none⟩ = some (.slice a0 m0 c0) := (World.cell?_of_block (hg.block bw HBWe.out.1 (fun e => HBWe.out.2.2 (Option.some.inj e)))).trans S0e; clear hm hg hr hp hc)
     | (go_at_call 21; with_reducible refine HC4.out.mono ?_
        rintro e u1 ⟨bp1, cp1, bc1, cc1, br1, cr1, rfl, hm, hg, hr, hp, hc⟩; have HD := hid (zjp HBV.out hg hm hr hp hc HSe.out); have HYL := zu0 hg HBV.out; obtain ⟨y0, y1, y2, yz⟩ := HYL; have z0 := yz 0; have z1 := yz 1; have z2 := yz 2; have S1 : u1.cell? ⟨bw, ow, none⟩ = some (.slice a0 m0 c0) := (World.cell?_of_block (hg.block bw (Nat.lt_of_lt_of_le HBWe.out.1 ((Ext.refl wE).alloc z2v).drew.size) (fun e => HBWe.out.2.2 (Option.some.inj e)))).trans (HFBe.out _ ((Ext.refl wE).alloc z2v).drew); have S2 : (st3 u1 wE.heap.size (.slice bp1 npZ cp1) (.slice bc1 ncZ cc1) (.slice br1 nrZ cr1)).cell? ⟨bw, ow, none⟩ = some (.slice a0 m0 c0) := (World.cell?_of_block (z1w (k := bw) (by have := HBWe.out.1; omega))).trans S1; clear hm hg hr hp hc yz))
   all_goals
    go_wp2_with fail
    go_meet
    first
     | with_reducible exact ⟨_, _, _, _, _, _, _, rfl, rfl, HD⟩
     | exact ⟨_, _, _, _, _, _, _, rfl, rfl, hid HD.out⟩
  case rest =>
   rename_i hKr
   obtain ⟨b15, ap5, cp5, ac5, cc5, ar5, cr5, rfl, rfl, HDZ⟩ := hcut
   obtain ⟨wF, hwF⟩ : ∃ Y, Y = wc := ⟨_, rfl⟩
   subst hwF
   have hTF : Kept (fun i => i < wB.heap.size ∧ i ≠ bu ∧ i ≠ bv) wB wF := fun i hi => (HDZ.out.gr.block i (Nat.lt_of_lt_of_le hi.1 HDX.out.gr.size) (fun e => hi.2.2 (Option.some.inj e))).trans (HDX.out.gr.block i hi.1 (fun e => hi.2.1 (Option.some.inj e)))
   have hTl : ∀ i, (i < wB.heap.size ∧ i ≠ bu ∧ i ≠ bv) → Old wF i := fun i hi => Nat.lt_of_lt_of_le (Nat.lt_of_lt_of_le hi.1 HDX.out.gr.size) HDZ.out.gr.size
   have hXS : ∀ i, (S i ∨ (wB.heap.size ≤ i ∧ i < wE.heap.size)) → i < wE.heap.size ∧ i ≠ bv := fun i hi => by
    have h1 := HBUV.out
    rcases hi with h | h
    ·exact ⟨HSe.out i h, (HSS.out i h).2.2⟩
    ·exact ⟨h.2, by omega⟩
   have hXk : Kept (fun i => S i ∨ (wB.heap.size ≤ i ∧ i < wE.heap.size)) wE wF := fun i hi => HDZ.out.gr.block i (hXS i hi).1 (fun e => (hXS i hi).2 (Option.some.inj e))
   have hXl : ∀ i, (S i ∨ (wB.heap.size ≤ i ∧ i < wE.heap.size)) → Old wF i := fun i hi => Nat.lt_of_lt_of_le (hXS i hi).1 HDZ.out.gr.size
   have hZl : ∀ i, (S i ∨ (wE.heap.size ≤ i ∧ i < wF.heap.size)) → Old wF i := fun i hi => by
    rcases hi with h | h
    ·exact Nat.lt_of_lt_of_le (HSe.out i h) HDZ.out.gr.size
    ·exact h.2
   have hdc : ∀ i, wF.cell? ⟨bd, i, none⟩ = wB.cell? ⟨bd, i, none⟩ := fun i => World.cell?_of_block (hTF bd HBD.out)
   have hb14 : b14 ≠ bv := fun e => by
    have h1 := HDX.out.b0
    have h2 := HBUV.out
    omega
   have hxc : ∀ i, wF.cell? ⟨b14, i, none⟩ = wE.cell? ⟨b14, i, none⟩ := fun i => World.cell?_of_block (HDZ.out.gr.block b14 (z09 HDX.out.c0) (fun e => hb14 (Option.some.inj e)))
   have hWF : Ext W wF := ⟨HDZ.out.gr.os.trans (HDX.out.gr.os.trans HWB.out.os), HDZ.out.gr.tape.trans (HDX.out.gr.tape.trans HWB.out.tape), HDZ.out.gr.output.trans (HDX.out.gr.output.trans HWB.out.output), Nat.le_trans HWB.out.size (Nat.le_trans HDX.out.gr.size HDZ.out.gr.size), fun i hi => (hTF i ⟨Nat.lt_of_lt_of_le hi HWB.out.size, by have := HBUV.out.1.1; omega, by have := HBUV.out.2.1; omega⟩).trans (HWB.out.block i hi)⟩
   refine hKr _ _ ?_
   refine zq4 (c := nxN 13 (Tryz.f5.body.getD .ret)) (by kernel_rfl) ?_
   exact zq7 (bd := bd) (b14 := b14) (b15 := b15) (k := k) (k' := k') (sX := sX) (sZ := sZ) (rX := rX) (rZ := rZ) (nX := nX) (nZ := nZ) (cX := cX) (l := l) hWF ((hdc 0).trans HCD.out.1) ((hdc 1).trans HCD.out.2.1) ((hdc 2).trans HCD.out.2.2)
    ((hxc 0).trans HDX.out.c0) ((hxc 1).trans HDX.out.c1) ((hxc 2).trans HDX.out.c2) HDZ.out.c0 HDZ.out.c1 HDZ.out.c2
    (HDP.out.to hTF hTl) (HDC.out.to hTF hTl) (HDR.out.to hTF hTl) (HZR.out.to hTF hTl) (HZP.out.to hTF hTl)
    (HDX.out.P.to hXk hXl) (HDX.out.C.to hXk hXl) (HDX.out.R.to hXk hXl) (HDZ.out.P.to (Kept.refl _ _) hZl) (HDZ.out.R.to (Kept.refl _ _) hZl)
    (HFL.out.to hTF hTl) HSM.out.1 HSM.out.2 (HM1.out.blk (hTF k ⟨z09 HM1.out.c0, HKK.out.1⟩)) (HM2.out.blk (hTF k' ⟨z09 HM2.out.c0, HKK.out.2⟩))
    ((HDX.out.mt bu rfl).1.blk (HDZ.out.gr.block bu (z09 (HDX.out.mt bu rfl).1.c0) (fun e => HNE.out (Option.some.inj e)))) (HDZ.out.mt bv rfl).1 HXO.out HZO.out
end
section
open Go.RowKit Go.Deep
structure Refs2 (w wx : World) (u v : Nat) (a b c d : Int) : Prop where
 ne : u ≠ v
 u0 : w.heap.size ≤ u
 v0 : w.heap.size ≤ v
 mu : RefAt wx u (MSt.new a b c d)
 mv : RefAt wx v (MSt.new a b c d)
 ext : Ext w wx
abbrev z97 (a b c d : Int) : Obj := .cells #[.int .i64 a, .int .i64 b, .int .i64 c, .int .i64 d, .int .i64 0, .int .i64 0, .int .i64 0, .int .i64 0] 60
theorem zcg (w : World) (a b c d : Int) : RefAt ((w.alloc (z97 a b c d)).alloc (z97 a b c d)).drew w.heap.size (MSt.new a b c d) :=
 (zgn w a b c d).grown (z07 ((Ext.alloc (Ext.refl _) _).drew) none) (by simp)
theorem za9 (w : World) (a b c d : Int) : RefAt ((w.alloc (z97 a b c d)).alloc (z97 a b c d)).drew (w.heap.size + 1) (MSt.new a b c d) := by
 have h := (zgn (w.alloc (z97 a b c d)) a b c d).grown (z07 ((Ext.refl _).drew) none) (by simp)
 rwa [z02] at h
theorem zwi (w : World) (a b c d : Int) : Hid (Refs2 w ((w.alloc (z97 a b c d)).alloc (z97 a b c d)).drew w.heap.size (w.heap.size + 1) a b c d) :=
 hid ⟨by omega, Nat.le_refl _, by omega, zcg w a b c d, za9 w a b c d, (((Ext.refl w).alloc _).alloc _).drew⟩
theorem zwj (w : World) (a b c d : Int) : Hid (Refs2 w ((w.alloc (z97 a b c d)).alloc (z97 a b c d)).drew (w.heap.size + 1) w.heap.size a b c d) :=
 hid ⟨by omega, by omega, Nat.le_refl _, za9 w a b c d, zcg w a b c d, (((Ext.refl w).alloc _).alloc _).drew⟩
theorem zi6 {W : World} {vf vl : Value} {f : List RTerm} {l : List (List RTerm)} {a b c d : Int} (hf : z05 (Old W) W vf f) (hl : z16 (Old W) W vl l) (ml : l.length ≤ 5864062014800) :
  Calls Tryz.prog 5 #[vf, vl, .agg #[.int .i64 a, .int .i64 b, .int .i64 c, .int .i64 d]] W fun e W' => e = .returned (.bool true) ∧ Ext W W' := by
 have hnot : ∀ (x : Bool) (w : World), (Op.unary .not (.bool x)).run Tryz.prog w = .ok (.bool (!x)) w := fun _ _ => rfl
 have HF := hid hf
 have HL := hid hl
 obtain ⟨af, cf, rfl⟩ := hf.form
 obtain ⟨al, cl, rfl⟩ := hl.form
 obtain ⟨nf, hnf⟩ : ∃ n, n = f.length := ⟨_, rfl⟩
 obtain ⟨nl, hnl⟩ : ∃ n, n = l.length := ⟨_, rfl⟩
 rw [← hnf] at HF ⊢
 rw [← hnl] at HL ml ⊢
 have HN := hid (And.intro hnf hnl)
 have j0 : (W.alloc (.cells #[.int .i64 a, .int .i64 b, .int .i64 c, .int .i64 d] 46)).cell? ⟨W.heap.size, 0, none⟩ = some (.int .i64 a) := z01 _ _ _ rfl rfl
 have j1 : (W.alloc (.cells #[.int .i64 a, .int .i64 b, .int .i64 c, .int .i64 d] 46)).cell? ⟨W.heap.size, 1, none⟩ = some (.int .i64 b) := z01 _ _ _ rfl rfl
 have j2 : (W.alloc (.cells #[.int .i64 a, .int .i64 b, .int .i64 c, .int .i64 d] 46)).cell? ⟨W.heap.size, 2, none⟩ = some (.int .i64 c) := z01 _ _ _ rfl rfl
 have j3 : (W.alloc (.cells #[.int .i64 a, .int .i64 b, .int .i64 c, .int .i64 d] 46)).cell? ⟨W.heap.size, 3, none⟩ = some (.int .i64 d) := z01 _ _ _ rfl rfl
 have HX0 := hid (Ext.alloc (Ext.refl W) (.cells #[.int .i64 a, .int .i64 b, .int .i64 c, .int .i64 d] 46))
 obtain ⟨w0, hw0⟩ : ∃ Y, Y = W.alloc (.cells #[.int .i64 a, .int .i64 b, .int .i64 c, .int .i64 d] 46) := ⟨_, rfl⟩
 have HZ0 : Hid (∀ i, w0.frozen? ⟨W.heap.size, i, none⟩ = false) := hid (by rw [hw0]; exact fun i => z2r W _ _)
 have HW0 := hid hw0
 rw [← hw0] at j0 j1 j2 j3 HX0
 have HJ := hid (And.intro j0 (And.intro j1 (And.intro j2 j3)))
 have HSZ : Hid (W.heap.size < w0.heap.size) := hid (z09 j0)
 have HF0 := hid (z05.on HF.out HX0.out)
 have HL0 := hid (z16.on HL.out HX0.out)
 have HML := hid ml
 clear hf hl hnf hnl hw0 j0 j1 j2 j3
 go_enter Tryz.func5, Tryz.ntmps5
 go_upto_region 1 with fail
 rw [← HW0.out]
 go_wp2_with (first | (at_builtin; refine z3e _ rfl (.tmp 25) (.tmp 26) rfl (.slice af nf cf) al nl cl f l rfl rfl HF0.out HL0.out (fun _ h => h) HML.out ?_; intro v1 w1 hp1 hx1; have HP1 := hid (hp1.to (S' := Old w1) (Kept.refl _ _) (z1i (fun _ h => h) hx1)); have HX1 := hid hx1; obtain ⟨a1, c1, rfl⟩ := hp1.form; obtain ⟨n1, hn1⟩ : ∃ n, n = (f :: l).length := ⟨_, rfl⟩; rw [← hn1] at HP1; rw [← hn1]; clear hp1 hx1 hn1))
 cases hg : z47 (f :: l) with
 | true =>
  have C := zc9 (S := Old w1) _ _ HP1.out (fun _ h => h)
  rw [hg] at C
  have HC1 := hid C
  clear C hg
  with_reducible refine HC1.out.mono ?_
  rintro e w2 ⟨rfl, hx2⟩
  have HX2 := hid (HX0.out.trans (HX1.out.trans hx2))
  clear hx2
  go_wp2_with fail
  with_reducible refine (z2q _).mono ?_
  rintro e w3 ⟨rfl, hx3⟩
  have HX3 := hid (HX2.out.trans hx3)
  clear hx3
  go_wp2
  all_goals
   go_ret
   exact ⟨rfl, HX3.out⟩
 | false =>
  have HG1 := hid (zlu hg)
  have C := zc9 (S := Old w1) _ _ HP1.out (fun _ h => h)
  rw [hg] at C
  have HC1 := hid C
  clear C hg
  with_reducible refine HC1.out.mono ?_
  rintro e w2 ⟨rfl, hx2⟩
  have HX2 := hid (HX0.out.trans (HX1.out.trans hx2))
  have HY2 := hid (HX1.out.trans hx2)
  clear hx2
  have j0 := HY2.out.cell HJ.out.1
  have j1 := HY2.out.cell HJ.out.2.1
  have j2 := HY2.out.cell HJ.out.2.2.1
  have j3 := HY2.out.cell HJ.out.2.2.2
  have z0 : w2.frozen? ⟨W.heap.size, 0, none⟩ = false := (World.frozen?_of_block (w := w0) (a := ⟨W.heap.size, 0, none⟩) (HY2.out.block _ HSZ.out)).trans (HZ0.out 0)
  go_upto_region 4 with fail
  obtain ⟨fu, hfu⟩ : ∃ z, z = min a 12 := ⟨_, rfl⟩
  have HFU : Hid (fu ≤ 12) := hid (by rw [hfu]; exact Int.min_le_right _ _)
  rw [← hfu]
  have k0 : (w2.setCell ⟨W.heap.size, 0, none⟩ (.int .i64 fu)).cell? ⟨W.heap.size, 0, none⟩ = some (.int .i64 fu) := z1f j0
  have k1 : (w2.setCell ⟨W.heap.size, 0, none⟩ (.int .i64 fu)).cell? ⟨W.heap.size, 1, none⟩ = some (.int .i64 b) := z0b j1 (ao (by decide))
  have k2 : (w2.setCell ⟨W.heap.size, 0, none⟩ (.int .i64 fu)).cell? ⟨W.heap.size, 2, none⟩ = some (.int .i64 c) := z0b j2 (ao (by decide))
  have k3 : (w2.setCell ⟨W.heap.size, 0, none⟩ (.int .i64 fu)).cell? ⟨W.heap.size, 3, none⟩ = some (.int .i64 d) := z0b j3 (ao (by decide))
  have hx3 : Ext W (w2.setCell ⟨W.heap.size, 0, none⟩ (.int .i64 fu)) := zgk (((z42 (o := none) (lo := W.heap.size) (hi := W.heap.size + 1) HX2.out).trans (z49 w2 (a := ⟨W.heap.size, 0, none⟩) (Nat.le_refl _) (Nat.lt_succ_self _) _)).gb (Nat.le_refl _))
  obtain ⟨w3, hw3⟩ : ∃ Y, Y = w2.setCell ⟨W.heap.size, 0, none⟩ (.int .i64 fu) := ⟨_, rfl⟩
  rw [← hw3] at k0 k1 k2 k3 hx3 ⊢
  have HX3 := hid hx3
  have HK3 := hid (And.intro k0 (And.intro k1 (And.intro k2 k3)))
  have CN := hid (fun Y => zub fu b c d Y)
  clear j0 j1 j2 j3 z0 hfu hw3 hx3
  go_wp2_with fail
  with_reducible refine (CN.out _).mono ?_
  rintro e w4 ⟨hx4, hy4⟩
  have HX4 := hid (HX3.out.trans hx4)
  have HK4 := hid (And.intro (hx4.cell HK3.out.1) (And.intro (hx4.cell HK3.out.2.1) (And.intro (hx4.cell HK3.out.2.2.1) (hx4.cell HK3.out.2.2.2))))
  have HF4 := hid (z05.on HF.out HX4.out)
  have HL4 := hid (z16.on HL.out HX4.out)
  have HG3 : Hid ((∀ p ∈ f :: l, fitT p) ∧ (f :: l).length ≤ 1000000) := hid ⟨fun p hp => zxj (HG1.out.1 p hp), Nat.le_trans HG1.out.2 (by decide)⟩
  clear k0 k1 k2 k3
  rcases hy4 with ⟨hma, k, hk, hmat, rfl⟩ | ⟨hno, rfl⟩
  ·have HMA := hid hma
   have HMT := hid hmat
   have HKK := hid (And.intro (Nat.le_trans HX3.out.size hk) (z09 hmat.c0))
   have HKL : Hid (W.heap.size < k) := hid (Nat.lt_of_lt_of_le (z09 HK3.out.1) hk)
   have HFS4 : Hid (z05 (Old W) w4 (.slice af nf cf) f) := hid (HF.out.to (Kept.ext HX4.out (fun _ h => h)) (fun _ h => h))
   have HLS4 : Hid (z16 (Old W) w4 (.slice al nl cl) l) := hid (HL.out.to (Kept.ext HX4.out (fun _ h => h)) (fun _ h => h))
   have HSW : Hid (∀ i, Old W i → i < w4.heap.size) := hid (fun i h => Nat.lt_of_lt_of_le h HX4.out.size)
   clear hx4 hma hk hmat
   go_wp2_with (first | (at_builtin; refine z3e _ rfl (.tmp 41) (.tmp 42) rfl (.slice af nf cf) al nl cl f l rfl rfl HFS4.out HLS4.out HSW.out HML.out ?_; intro v6 w6 hp6 hx6; have HP6 := hid (hp6.to (S' := Old w6) (Kept.refl _ _) (z1i HSW.out hx6)); have HP6s := hid hp6; have HX6 := hid hx6; obtain ⟨a6, c6, rfl⟩ := hp6.form; obtain ⟨n6, hn6⟩ : ∃ n, n = (f :: l).length := ⟨_, rfl⟩; rw [← hn6] at HP6 HP6s; rw [← hn6]; clear hp6 hx6 hn6))
   have HPL1 := hid (zce (S := Plus (Old W) w4 w6) _ _ w6 HP6s.out (z1i HSW.out HX6.out) HG3.out.1 HG3.out.2)
   obtain ⟨ba, hba⟩ : ∃ b, b = (f :: l).all mayT := ⟨_, rfl⟩
   rw [← hba] at HPL1
   have HBA := hid hba
   clear hba
   with_reducible refine HPL1.out.mono ?_
   rintro e w7 ⟨vw, rfl, hw7, hx7⟩
   have HWR7 := hid (fun (h : ba = true) => (hw7 h).to (S' := Plus (Old W) w4 w7) (Kept.refl _ _) (z6w HX6.out.size hx7.size))
   have HY7 := hid (HX6.out.trans hx7)
   have HX7 := hid (HX4.out.trans HY7.out)
   have HK7 := hid (And.intro (HY7.out.cell HK4.out.1) (And.intro (HY7.out.cell HK4.out.2.1) (And.intro (HY7.out.cell HK4.out.2.2.1) (HY7.out.cell HK4.out.2.2.2))))
   have HMT7 := hid (HMT.out.kept HY7.out HKK.out.2)
   clear hw7 hx7
   obtain ⟨k0, k1, k2, k3⟩ := HK7.out
   go_wp2_with fail
   with_reducible refine (CN.out _).mono ?_
   rintro e w8 ⟨hx8, hy8⟩
   have HX8 := hid (HX7.out.trans hx8)
   have HY8 := hid hx8
   have HK8 := hid (And.intro (hx8.cell HK7.out.1) (And.intro (hx8.cell HK7.out.2.1) (And.intro (hx8.cell HK7.out.2.2.1) (hx8.cell HK7.out.2.2.2))))
   rcases hy8 with ⟨-, k', hk', hmat', rfl⟩ | ⟨hno, -⟩
   ·have HMT8 := hid (HMT7.out.kept hx8 (Nat.lt_of_lt_of_le HKK.out.2 HY7.out.size))
    have HMT8' := hid hmat'
    have HNE : Hid (k ≠ k') := hid (fun e => by have h1 := HKK.out.2; have h2 := HY7.out.size; omega)
    have HKK' := hid (And.intro (Nat.le_trans HX7.out.size hk') (z09 hmat'.c0))
    have HKL' : Hid (w7.heap.size ≤ k') := hid hk'
    have HSL7 : Hid (∀ i, Plus (Old W) w4 w7 i → i < w7.heap.size) := hid (z1i HSW.out HY7.out)
    clear hx8 hk' hmat' k0 k1 k2 k3
    have HSM : Hid (z48 f ∧ z55 l) := hid ⟨zpw (HG1.out.1 f List.mem_cons_self), fun p hp => zpw (HG1.out.1 p (List.mem_cons_of_mem _ hp))⟩
    cases ba with
    | false =>
     have HNM : Hid ((mayT f && mayC 0 l) = false) := hid (zti HBA.out.symm)
     have CR := z95 (W := w8) (vm := .pointer (some ⟨k, 0, none⟩)) ⟨_, rfl⟩ (z05.on HF.out HX8.out) (z16.on HL.out HX8.out) HSM.out.1 HSM.out.2 HNM.out
     have HCR := hid CR
     clear CR
     go_wp2_with fail
     with_reducible refine HCR.out.mono ?_
     rintro e w9 ⟨rfl, hx9⟩
     have HX9 := hid (HX8.out.trans hx9)
     have HXA := hid (Ext.alloc (Ext.refl w9) (.cells #[.slice none 0 0, .slice none 0 0, .slice none 0 0] 27))
     have q0 : (w9.alloc (.cells #[.slice none 0 0, .slice none 0 0, .slice none 0 0] 27)).cell? ⟨w9.heap.size, 0, none⟩ = some (.slice none 0 0) := z01 _ _ _ rfl rfl
     have q2 : (w9.alloc (.cells #[.slice none 0 0, .slice none 0 0, .slice none 0 0] 27)).cell? ⟨w9.heap.size, 2, none⟩ = some (.slice none 0 0) := z01 _ _ _ rfl rfl
     have HQ := hid (And.intro q0 q2)
     have HX10 := hid (HX9.out.trans HXA.out)
     have CD := hid (fun (Y : World) (hY : Ext W Y) => z6y (W := Y) (vm := .pointer (some ⟨k', 0, none⟩)) ⟨_, rfl⟩ (z05.on HF.out hY) (z16.on HL.out hY) HSM.out.1 HSM.out.2 HNM.out)
     clear hx9 q0 q2
     go_wp2_with fail
     with_reducible refine (CD.out _ HX10.out).mono ?_
     rintro e w11 ⟨rfl, hx11⟩
     have HX11 := hid (HX10.out.trans hx11)
     have q0 := hx11.cell HQ.out.1
     have q2 := hx11.cell HQ.out.2
     have HQ11 := hid (And.intro q0 q2)
     clear hx11
     go_wp2_with fail
     with_reducible refine (z2q _).mono ?_
     rintro e w14 ⟨rfl, hx14⟩
     have HX14 := hid (HX11.out.trans hx14)
     clear hx14
     go_wp2
     all_goals
      go_ret
      exact ⟨rfl, HX14.out⟩
    | true =>
     have HOK := hid (ztj HP6.out HBA.out.symm)
     have hw7 := HWR7.out rfl
     have HW8 : Hid (RPs (Plus (Old W) w4 w7) w8 vw ((f :: l).map z0n)) := hid (hw7.to (Kept.ext HY8.out HSL7.out) (fun _ h => h))
     have HSL8 : Hid (∀ i, Plus (Old W) w4 w7 i → i < w8.heap.size) := hid (fun i h => Nat.lt_of_lt_of_le (HSL7.out i h) HY8.out.size)
     obtain ⟨aw, cw, hvw⟩ := hw7.form
     have hvw2 : vw = .slice aw (nl + 1) cw := by rw [hvw, HN.out.2]; simp
     clear hvw
     subst hvw2
     obtain ⟨bw, ow, v0, haw, hnw, hw1, hw2, hSb, hw3, HV0⟩ := HW8.out.cellAt (k := 0) rfl
     have HSb := hid hSb
     subst haw
     rw [Nat.add_zero] at hw3
     have HV0' := hid HV0
     have HW3 := hid hw3
     clear hw7 hnw hw3 HV0 hSb
     -- what is behind the first one
     obtain ⟨A, hA1, hA2⟩ : ∃ A : Option Addr, A = (if cw = 1 then some (⟨bw, ow, none⟩ : Addr) else (some (⟨bw, ow, none⟩ : Addr)).map (·.add (1 * 1))) ∧ RPs (Plus (Old W) w4 w7) w8 (.slice A nl (cw - 1)) (l.map z0n) := by
      by_cases e1 : cw = 1
      ·refine ⟨_, rfl, ?_⟩
       have h := RPs.nothing HW8.out e1 (some ⟨bw, ow, none⟩) (cw - 1) (by omega)
       rw [if_pos e1]
       have hz : nl = 0 := by omega
       rw [hz]
       exact h
      ·refine ⟨_, rfl, ?_⟩
       rw [if_neg e1]
       have h := RPs.drop_one HW8.out
       rw [Nat.add_sub_cancel] at h
       simpa [Addr.add] using h
     have HA2 := hid hA2
     have HA1 := hid hA1
     have HZM : Hid (mayC 0 l = mayZ 0 (l.map z0n)) := hid (by
      have h := zxd (l := l.map z0n) (fun p hp => by obtain ⟨t, -, rfl⟩ := List.mem_map.1 hp; exact z2t t) 0
      rwa [zgw (fun p hp => (HOK.out p (List.mem_cons_of_mem _ hp)).2)] at h)
     clear hA1 hA2
     cases hmz : mayZ 0 (l.map z0n) with
     | false =>
      have HNM : Hid ((mayT f && mayC 0 l) = false) := hid (by rw [HZM.out, hmz]; simp)
      have HMC : Hid (mayC 0 l = false) := hid (by rw [HZM.out, hmz])
      have HCAN : Hid (∀ p ∈ l.map z0n, canP p) := hid (fun p hp => by obtain ⟨t, -, rfl⟩ := List.mem_map.1 hp; exact z2t t)
      have CR := z95 (W := w8) (vm := .pointer (some ⟨k, 0, none⟩)) ⟨_, rfl⟩ (z05.on HF.out HX8.out) (z16.on HL.out HX8.out) HSM.out.1 HSM.out.2 HNM.out
      have HCR := hid CR
      clear CR
      go_wp2_with fail
      with_reducible refine HCR.out.mono ?_
      rintro e w9 ⟨rfl, hx9⟩
      have HX9 := hid (HX8.out.trans hx9)
      have HX9b := hid hx9
      have HXA := hid (Ext.alloc (Ext.refl w9) (.cells #[.slice none 0 0, .slice none 0 0, .slice none 0 0] 27))
      have q0 : (w9.alloc (.cells #[.slice none 0 0, .slice none 0 0, .slice none 0 0] 27)).cell? ⟨w9.heap.size, 0, none⟩ = some (.slice none 0 0) := z01 _ _ _ rfl rfl
      have q2 : (w9.alloc (.cells #[.slice none 0 0, .slice none 0 0, .slice none 0 0] 27)).cell? ⟨w9.heap.size, 2, none⟩ = some (.slice none 0 0) := z01 _ _ _ rfl rfl
      have HQ := hid (And.intro q0 q2)
      have HX10 := hid (HX9.out.trans HXA.out)
      have CD := hid (fun (Y : World) (hY : Ext W Y) => z6y (W := Y) (vm := .pointer (some ⟨k', 0, none⟩)) ⟨_, rfl⟩ (z05.on HF.out hY) (z16.on HL.out hY) HSM.out.1 HSM.out.2 HNM.out)
      clear hx9 q0 q2
      go_wp2_with fail
      with_reducible refine (CD.out _ HX10.out).mono ?_
      rintro e w11 ⟨rfl, hx11⟩
      have HX11 := hid (HX10.out.trans hx11)
      have HX11b := hid hx11
      have q0 := hx11.cell HQ.out.1
      have q2 := hx11.cell HQ.out.2
      have HQ11 := hid (And.intro q0 q2)
      clear hx11
      have HX811 : Hid (Ext w8 w11) := hid (HX9b.out.trans (HXA.out.trans HX11b.out))
      have HRM := hid (zgt (RPs.on (HA2.out.to (S' := Old w8) (Kept.refl _ _) HSL8.out) HX811.out) HCAN.out)
      rw [hmz] at HRM
      clear hmz q0 q2
      go_wp2_with (first | (refine z4x _ rfl (.tmp 82) (.const (.int .i64 1)) 30 35 rfl Tryz.underlying30 Tryz.infoP (some ⟨bw, ow, none⟩) (nl + 1) cw 1 rfl rfl (by omega) ?_; intro A' hA'; have hA3 : A = A' := HA1.out.trans hA'.symm; clear hA'; subst hA3; rw [Nat.add_sub_cancel]))
      with_reducible refine HRM.out.mono ?_
      rintro e w12 ⟨rfl, hx12⟩
      have HX12 := hid (HX11.out.trans hx12)
      have q0 := hx12.cell HQ11.out.1
      have q2 := hx12.cell HQ11.out.2
      have CM := z40 (S := Old w12) (.slice al nl cl) l w12 (z16.on HL.out HX12.out) (fun _ h => h) HSM.out.2
      rw [HMC.out] at CM
      have HCM := hid CM
      clear hx12 CM
      go_wp2_with fail
      with_reducible refine HCM.out.mono ?_
      rintro e w13 ⟨rfl, hx13⟩
      have HX13 := hid (HX12.out.trans hx13)
      clear hx13 q0 q2
      go_wp2_with fail
      with_reducible refine (z2q _).mono ?_
      rintro e w14 ⟨rfl, hx14⟩
      have HX14 := hid (HX13.out.trans hx14)
      clear hx14
      go_wp2
      all_goals
       go_ret
       exact ⟨rfl, HX14.out⟩
     | true =>
      have HMZ := hid hmz
      have HMC : Hid (mayC 0 l = true) := hid (by rw [HZM.out, hmz])
      have HCAN : Hid (∀ p ∈ l.map z0n, canP p) := hid (fun p hp => by obtain ⟨t, -, rfl⟩ := List.mem_map.1 hp; exact z2t t)
      have HPF := hid (zpx (HOK.out f List.mem_cons_self).1 (HG1.out.1 f List.mem_cons_self))
      have HPL : Hid (∀ p ∈ l.map z0n, Fit 3 6 p ∧ exB 4 p) := hid (fun p hp => by
       obtain ⟨t, ht, rfl⟩ := List.mem_map.1 hp
       exact zpx (HOK.out t (List.mem_cons_of_mem _ ht)).1 (HG1.out.1 t (List.mem_cons_of_mem _ ht)))
      obtain ⟨F, hF⟩ : ∃ F, F = z0n f := ⟨_, rfl⟩
      obtain ⟨L, hL⟩ : ∃ L, L = l.map z0n := ⟨_, rfl⟩
      have HLO : Hid (L.map ofP = l) := hid (by rw [hL]; exact zgw (fun p hp => (HOK.out p (List.mem_cons_of_mem _ hp)).2))
      have HFO : Hid (f = ofP F) := hid (by rw [hF]; exact (HOK.out f List.mem_cons_self).2)
      have HLN : Hid (L.length = nl) := hid (by rw [hL, List.length_map]; exact HN.out.2.symm)
      rw [← hF] at HPF HV0'
      rw [← hL] at HMZ HCAN HPL HA2
      obtain ⟨s0, hs0⟩ : ∃ s, s = MSt.new fu b c d := ⟨_, rfl⟩
      have HS0 := hid hs0
      rw [← hs0] at HMT8 HMT8'
      have HOK0 : Hid s0.Ok := hid (by rw [hs0]; exact zph HMA.out)
      have HRT : Hid (∀ (k : Nat) (w : Bool), z22 (some k) w L L.length s0 F (List.replicate L.length []) ∧ ((z24 (some k) w L L.length s0 F (List.replicate L.length 0) (List.replicate L.length [])).1 = 0 → Fit 50 100000 (z24 (some k) w L L.length s0 F (List.replicate L.length 0) (List.replicate L.length [])).2.2.1 ∧ ∀ i, i < L.length → Fit 50 100000 ((z24 (some k) w L L.length s0 F (List.replicate L.length 0) (List.replicate L.length [])).2.2.2.2.getD i []))) := hid (fun k w => by rw [hs0]; exact zxh w HMA.out HFU.out HPF.out.1 HPF.out.2 HPL.out HMZ.out)
      have HLT : Hid (L.length ≤ 1000) := hid (by rw [HLN.out, HN.out.2]; have := HG1.out.2; simp at this; omega)
      have HSL : Hid (z55 (L.map ofP)) := hid (by rw [HLO.out]; exact HSM.out.2)
      have HMY : Hid (mayC 0 (L.map ofP) = true) := hid (by rw [HLO.out]; exact HMC.out)
      -- arguments, wherever a meter lies
      have HFA : Hid (∀ (Y : World) (j : Nat), Kept (Old W) W Y → W.heap.size ≤ Y.heap.size → W.heap.size ≤ j → PM (some j) Y (.slice af nf cf) F) := hid (fun Y j hk hz hj => by
       show z05 _ _ _ (ofP F)
       rw [← HFO.out]
       exact HF.out.to hk (fun i hi => ⟨Nat.lt_of_lt_of_le hi hz, fun e => by have h1 : i < W.heap.size := hi; have h2 := Option.some.inj e; omega⟩))
      have HLA : Hid (∀ (Y : World) (j : Nat), Kept (Old W) W Y → W.heap.size ≤ Y.heap.size → W.heap.size ≤ j → z16 (NB (some j) Y) Y (.slice al nl cl) (L.map ofP)) := hid (fun Y j hk hz hj => by
       rw [HLO.out]
       exact HL.out.to hk (fun i hi => ⟨Nat.lt_of_lt_of_le hi hz, fun e => by have h1 : i < W.heap.size := hi; have h2 := Option.some.inj e; omega⟩))
      have CR := zdm (W := w8) (o := some k) (s := s0) (f := F) (ls := L) (A := 3) (T := 6) (fun j hj => by cases hj; exact ⟨HMT8.out, HOK0.out⟩) (HFA.out w8 k (Kept.ext HX8.out (fun _ h => h)) HX8.out.size HKK.out.1) (HLA.out w8 k (Kept.ext HX8.out (fun _ h => h)) HX8.out.size HKK.out.1) HPF.out.1 (by decide) (by decide) HSL.out HMY.out HLT.out (HRT.out k true).1
      obtain ⟨X, hX⟩ : ∃ X, X = z24 (some k) true L L.length s0 F (List.replicate L.length 0) (List.replicate L.length []) := ⟨_, rfl⟩
      rw [← hX] at CR
      have HX := hid hX
      have HCR : Hid (Calls Tryz.prog 16 #[.pointer (some ⟨k, 0, none⟩), .slice af nf cf, .slice al nl cl] w8 (z7s w8 (some k) X)) := hid CR
      clear hmz hF hL hs0 hX CR
      go_wp2_with fail
      with_reducible refine HCR.out.mono ?_
      rintro e w9 ⟨vp, vc, vr, rfl, hm9, hg9, hr9, hp9, hc9⟩
      have HM9 := hid hm9
      have HG9 := hid hg9
      have HR9 := hid hr9
      have HP9 := hid hp9
      have HC9 := hid hc9
      obtain ⟨ap, cp, rfl⟩ := hp9.form
      obtain ⟨ac, cc, rfl⟩ := hc9.form
      obtain ⟨ar, cr, rfl⟩ := hr9.form
      obtain ⟨np, hnp⟩ : ∃ n, n = X.2.2.2.1.length := ⟨_, rfl⟩
      obtain ⟨nc, hnc⟩ : ∃ n, n = (X.2.2.2.2.map ofP).length := ⟨_, rfl⟩
      obtain ⟨nr, hnr⟩ : ∃ n, n = (ofP X.2.2.1).length := ⟨_, rfl⟩
      rw [← hnp] at HP9 ⊢
      rw [← hnc] at HC9 ⊢
      rw [← hnr] at HR9 ⊢
      have HKE9 : Hid (Kept (Old W) W w9) := hid (fun i hi => (hg9.block i (Nat.lt_of_lt_of_le hi HX8.out.size) (fun e => by have h1 : i < W.heap.size := hi; have h2 := Option.some.inj e; have h3 := HKK.out.1; omega)).trans (HX8.out.block i hi))
      have HZ9 : Hid (W.heap.size ≤ w9.heap.size) := hid (Nat.le_trans HX8.out.size hg9.size)
      have HMN9 : Hid (MeterAt w9 k' s0) := hid (HMT8'.out.grown hg9 (fun e => HNE.out (Option.some.inj e).symm))
      clear hm9 hg9 hr9 hp9 hc9 hnp hnc hnr
      obtain ⟨xe, hxe⟩ : ∃ z, z = X.1 := ⟨_, rfl⟩
      have HXE := hid hxe
      rw [← hxe]
      clear hxe
      have hdd0 : (w9.alloc (.cells #[.slice ap np cp, .slice ac nc cc, .slice ar nr cr] 27)).cell? ⟨w9.heap.size, 0, none⟩ = some (.slice ap np cp) := z01 _ _ _ rfl rfl
      have hdd1 : (w9.alloc (.cells #[.slice ap np cp, .slice ac nc cc, .slice ar nr cr] 27)).cell? ⟨w9.heap.size, 1, none⟩ = some (.slice ac nc cc) := z01 _ _ _ rfl rfl
      have hdd2 : (w9.alloc (.cells #[.slice ap np cp, .slice ac nc cc, .slice ar nr cr] 27)).cell? ⟨w9.heap.size, 2, none⟩ = some (.slice ar nr cr) := z01 _ _ _ rfl rfl
      have HXA := hid (Ext.alloc (Ext.refl w9) (.cells #[.slice ap np cp, .slice ac nc cc, .slice ar nr cr] 27))
      obtain ⟨wA, hwA⟩ : ∃ Y, Y = w9.alloc (.cells #[.slice ap np cp, .slice ac nc cc, .slice ar nr cr] 27) := ⟨_, rfl⟩
      rw [← hwA] at hdd0 hdd1 hdd2 HXA
      have HDD := hid (And.intro hdd0 (And.intro hdd1 hdd2))
      have HWA := hid hwA
      have HKEA : Hid (Kept (Old W) W wA) := hid (fun i hi => (HXA.out.block i (Nat.lt_of_lt_of_le hi HZ9.out)).trans (HKE9.out i hi))
      have CD := zgr (W := wA) (o := some k') (s := s0) (f := F) (ls := L) (A := 3) (T := 6) (fun j hj => by cases hj; exact ⟨HMN9.out.kept HXA.out (z09 HMN9.out.c0), HOK0.out⟩) (HFA.out wA k' HKEA.out (Nat.le_trans HZ9.out HXA.out.size) HKK'.out.1) (HLA.out wA k' HKEA.out (Nat.le_trans HZ9.out HXA.out.size) HKK'.out.1) HPF.out.1 (by decide) (by decide) HSL.out HMY.out HLT.out (z22.red _ (HRT.out k' false).1)
      obtain ⟨Z, hZ⟩ : ∃ Z, Z = z24 (some k') false L L.length s0 F (List.replicate L.length 0) (List.replicate L.length []) := ⟨_, rfl⟩
      rw [zpn L.length s0 F (List.replicate L.length 0) (List.replicate L.length []), ← hZ] at CD
      have HZ := hid hZ
      have HCD : Hid (Calls Tryz.prog 15 #[.pointer (some ⟨k', 0, none⟩), .slice af nf cf, .slice al nl cl] wA (zpm wA (some k') (Z.1, Z.2.1, Z.2.2.1, Z.2.2.2.1))) := hid CD
      clear hdd0 hdd1 hdd2 hwA CD hZ
      go_wp2_with fail
      rw [← HWA.out]
      with_reducible refine HCD.out.mono ?_
      rintro e w11 ⟨vr2, vn2, rfl, hm11, hg11, hr11, hp11⟩
      have HM11 := hid hm11
      have HG11 := hid hg11
      have HR11 := hid hr11
      have HP11 := hid hp11
      obtain ⟨ar2, cr2, rfl⟩ := hr11.form
      obtain ⟨ap2, cp2, rfl⟩ := hp11.form
      obtain ⟨nr2, hnr2⟩ : ∃ n, n = (ofP Z.2.2.1).length := ⟨_, rfl⟩
      obtain ⟨np2, hnp2⟩ : ∃ n, n = Z.2.2.2.1.length := ⟨_, rfl⟩
      obtain ⟨ze, hze⟩ : ∃ z, z = Z.1 := ⟨_, rfl⟩
      have hR2 := hr11
      have hP2 := hp11
      rw [show (ofP (Z.1, Z.2.1, Z.2.2.1, Z.2.2.2.1).2.2.1).length = nr2 from hnr2.symm] at HR11 ⊢
      rw [show ((Z.1, Z.2.1, Z.2.2.1, Z.2.2.2.1).2.2.2).length = np2 from hnp2.symm] at HP11 ⊢
      rw [show (Z.1, Z.2.1, Z.2.2.1, Z.2.2.2.1).1 = ze from hze.symm]
      have HZE := hid hze
      -- what lies where behind both
      have HNK : Hid (∀ i, Plus (Old W) w4 w7 i → i ≠ k ∧ i ≠ k') := hid (fun i hi => by
       have h1 := HSL7.out i hi
       have h2 := HKL'.out
       refine ⟨fun e => ?_, fun e => by omega⟩
       rcases hi with h | h
       ·have h3 : i < W.heap.size := h
        have := HKL.out
        omega
       ·have := h.1
        have := HKK.out.2
        omega)
      have HB11 : Hid (∀ i, i < w8.heap.size → i ≠ k → i ≠ k' → w11.heap[i]? = w8.heap[i]?) := hid (fun i h1 h2 h3 => by
       have a1 := HG9.out.block i h1 (fun e => h2 (Option.some.inj e))
       have a2 := HXA.out.block i (Nat.lt_of_lt_of_le h1 HG9.out.size)
       have a3 := hg11.block i (Nat.lt_of_lt_of_le (Nat.lt_of_lt_of_le h1 HG9.out.size) HXA.out.size) (fun e => h3 (Option.some.inj e))
       exact (a3.trans a2).trans a1)
      have HC11 : Hid (∀ i, w8.heap.size ≤ i → i < wA.heap.size → w11.heap[i]? = wA.heap[i]?) := hid (fun i h1 h2 => hg11.block i h2 (fun e => by have := Option.some.inj e; have := HKK'.out.2; omega))
      have HS11 : Hid (w8.heap.size ≤ w11.heap.size) := hid (Nat.le_trans HG9.out.size (Nat.le_trans HXA.out.size hg11.size))
      have HL11 : Hid (w11.cell? ⟨W.heap.size, 0, none⟩ = some (.int .i64 fu) ∧ w11.cell? ⟨W.heap.size, 1, none⟩ = some (.int .i64 b) ∧ w11.cell? ⟨W.heap.size, 2, none⟩ = some (.int .i64 c) ∧ w11.cell? ⟨W.heap.size, 3, none⟩ = some (.int .i64 d)) := hid (by
       have hb : w11.heap[W.heap.size]? = w8.heap[W.heap.size]? := HB11.out _ (z09 HK8.out.1) (by have := HKL.out; omega) (by have h1 := HKL'.out; have h2 := z09 HK7.out.1; have h3 : W.heap.size < w7.heap.size := h2; omega)
       exact ⟨(World.cell?_of_block hb).trans HK8.out.1, (World.cell?_of_block hb).trans HK8.out.2.1, (World.cell?_of_block hb).trans HK8.out.2.2.1, (World.cell?_of_block hb).trans HK8.out.2.2.2⟩)
      have HA11 : Hid (RPs (Plus (Old W) w4 w7) w11 (.slice A nl (cw - 1)) L) := hid (HA2.out.to (fun i hi => HB11.out i (HSL8.out i hi) (HNK.out i hi).1 (HNK.out i hi).2) (fun _ h => h))
      have HRM := zgt (HA11.out.to (S' := Old w11) (Kept.refl _ _) (fun i hi => Nat.lt_of_lt_of_le (HSL8.out i hi) HS11.out)) HCAN.out
      rw [HMZ.out] at HRM
      have HRM2 := hid HRM
      clear hm11 hg11 hr11 hp11 hnr2 hnp2 hze hR2 hP2 HRM
      go_wp2_with (first | (refine z4x _ rfl (.tmp 82) (.const (.int .i64 1)) 30 35 rfl Tryz.underlying30 Tryz.infoP (some ⟨bw, ow, none⟩) (nl + 1) cw 1 rfl rfl (by omega) ?_; intro A' hA'; have hA3 : A = A' := HA1.out.trans hA'.symm; clear hA'; subst hA3; rw [Nat.add_sub_cancel]))
      with_reducible refine HRM2.out.mono ?_
      rintro e w12 ⟨rfl, hx12⟩
      have HX12 := hid hx12
      obtain ⟨k0, k1, k2, k3⟩ := (And.intro (hx12.cell HL11.out.1) (And.intro (hx12.cell HL11.out.2.1) (And.intro (hx12.cell HL11.out.2.2.1) (hx12.cell HL11.out.2.2.2))))
      clear hx12
      go_upto_region 13 with fail
      have HFL : Hid (∀ Y : World, Ext w12 Y → Y.cell? ⟨W.heap.size, 0, none⟩ = some (.int .i64 fu) ∧ Y.cell? ⟨W.heap.size, 1, none⟩ = some (.int .i64 b) ∧ Y.cell? ⟨W.heap.size, 2, none⟩ = some (.int .i64 c) ∧ Y.cell? ⟨W.heap.size, 3, none⟩ = some (.int .i64 d)) := hid (fun Y hY => ⟨hY.cell k0, hY.cell k1, hY.cell k2, hY.cell k3⟩)
      have S0 := HFL.out _ (Ext.refl w12).drew
      clear k0 k1 k2 k3
      go_cut [18, 19] (fun s18 s19 wx => ∃ u v, s18 = .pointer (some ⟨u, 0, none⟩) ∧ s19 = .pointer (some ⟨v, 0, none⟩) ∧ Hid (Refs2 w12 wx u v fu b c d))
      case first =>
       go_region_held3 (fun Y => Y.cell? ⟨W.heap.size, 0, none⟩ = some (.int .i64 fu) ∧ Y.cell? ⟨W.heap.size, 1, none⟩ = some (.int .i64 b) ∧ Y.cell? ⟨W.heap.size, 2, none⟩ = some (.int .i64 c) ∧ Y.cell? ⟨W.heap.size, 3, none⟩ = some (.int .i64 d)) (first | exact S0 | exact HFL.out _ ((Ext.refl w12).alloc _).drew | exact HFL.out _ (((Ext.refl w12).alloc _).alloc _).drew) (fail)
       all_goals
        go_wp2_with fail
        go_meet
        first
         | with_reducible exact ⟨_, _, rfl, rfl, zwi w12 fu b c d⟩
         | with_reducible exact ⟨_, _, rfl, rfl, zwj w12 fu b c d⟩
      case rest =>
       rename_i hKr
       obtain ⟨bu, bv, rfl, rfl, HUV⟩ := hcut
       have HA1' : Hid (A = if cw = 1 then some ⟨bw, ow, none⟩ else some ⟨bw, ow + 1, none⟩) := hid (by rw [HA1.out]; simp [Addr.add])
       have HXc : Hid (Ext w11 wc) := hid (HX12.out.trans HUV.out.ext)
       have HSc : Hid (∀ i, Plus (Old W) w4 w7 i → i < w11.heap.size) := hid (fun i hi => Nat.lt_of_lt_of_le (HSL8.out i hi) HS11.out)
       have HKc : Hid (Kept (Plus (Old W) w4 w7) w8 wc) := hid (fun i hi => (HXc.out.block i (HSc.out i hi)).trans (HB11.out i (HSL8.out i hi) (HNK.out i hi).1 (HNK.out i hi).2))
       have HAc := hid (HA2.out.to HKc.out (fun _ h => h))
       have HVc := hid (HV0'.out.to HKc.out (fun _ h => h))
       have HW3c : Hid (wc.cell? ⟨bw, ow, none⟩ = some v0) := hid ((World.cell?_of_block (HKc.out bw HSb.out)).trans HW3.out)
       have HU12 : Hid (w11.heap.size ≤ w12.heap.size) := hid HX12.out.size
       have HBU : Hid (∀ j, some bu = some j → j < wc.heap.size) := hid (fun j hj => by cases hj; exact z09 HUV.out.mu.c0)
       have HBV : Hid (∀ j, some bv = some j → j < wc.heap.size) := hid (fun j hj => by cases hj; exact z09 HUV.out.mv.c0)
       have HSw : Hid (∀ i, Plus (Old W) w4 w7 i → i < wc.heap.size ∧ i ≠ bu ∧ i ≠ bv) := hid (fun i hi => by
        have h1 := HSc.out i hi
        have h2 := HUV.out.u0
        have h3 := HUV.out.v0
        have h4 := HU12.out
        have h5 := HXc.out.size
        omega)
       obtain ⟨npX, hnpX⟩ : ∃ n, n = X.2.2.2.1.length := ⟨_, rfl⟩
       obtain ⟨ncX, hncX⟩ : ∃ n, n = X.2.2.2.2.length := ⟨_, rfl⟩
       obtain ⟨nrX, hnrX⟩ : ∃ n, n = X.2.2.1.length := ⟨_, rfl⟩
       obtain ⟨npZ, hnpZ⟩ : ∃ n, n = Z.2.2.2.1.length := ⟨_, rfl⟩
       obtain ⟨ncZ, hncZ⟩ : ∃ n, n = Z.2.2.2.2.length := ⟨_, rfl⟩
       obtain ⟨nrZ, hnrZ⟩ : ∃ n, n = Z.2.2.1.length := ⟨_, rfl⟩
       have CX := hid (fun (Y : World) (hY : Ext wc Y) => (show Calls Tryz.prog 21 #[.pointer (some ⟨bu, 0, none⟩), v0, .slice A nl (cw - 1), .bool true] Y (zcf (Plus (Old W) w4 w7) Y (some bu) X.2.1 xe X.2.2.1 X.2.2.2.1 X.2.2.2.2 npX ncX nrX) from by
        have h := zjo (W := Y) (S := Plus (Old W) w4 w7) (o := some bu) (s := s0) (f := F) (ls := L) (w := true) (vf := v0) (vl := .slice A nl (cw - 1)) (fun j hj => by cases hj; exact ⟨by rw [HS0.out]; exact HUV.out.mu.grown (z07 hY none) (by simp), HOK0.out⟩) (fun i hi => Nat.lt_of_lt_of_le (HSc.out i hi) (HXc.out.trans hY).size) (fun j hj hs => by cases hj; exact (HSw.out _ hs).2.1 rfl) (HVc.out.to (fun i hi => hY.block i (HSw.out i hi).1) (fun _ h => h)) (HAc.out.to (fun i hi => hY.block i (HSw.out i hi).1) (fun _ h => h)) HLT.out (HRT.out bu true).1
        rw [zps (o := some bu) (r := some k) ⟨fun h => (by cases h), fun h => (by cases h)⟩, ← HX.out] at h
        rw [HXE.out, hnpX, hncX, hnrX]
        exact h.mono (fun e w' h => zq6 h)))
       have CZ := hid (fun (Y : World) (hg : wc.grownBy Y (some bu)) => (show Calls Tryz.prog 21 #[.pointer (some ⟨bv, 0, none⟩), v0, .slice A nl (cw - 1), .bool false] Y (zcf (Plus (Old W) w4 w7) Y (some bv) Z.2.1 ze Z.2.2.1 Z.2.2.2.1 Z.2.2.2.2 npZ ncZ nrZ) from by
        have hkk : Kept (Plus (Old W) w4 w7) wc Y := fun i hi => hg.block i (HSw.out i hi).1 (fun e => (HSw.out i hi).2.1 (Option.some.inj e))
        have h := zjo (W := Y) (S := Plus (Old W) w4 w7) (o := some bv) (s := s0) (f := F) (ls := L) (w := false) (vf := v0) (vl := .slice A nl (cw - 1)) (fun j hj => by cases hj; exact ⟨by rw [HS0.out]; exact HUV.out.mv.grown hg (fun e => HUV.out.ne (Option.some.inj e).symm), HOK0.out⟩) (fun i hi => Nat.lt_of_lt_of_le (HSw.out i hi).1 hg.size) (fun j hj hs => by cases hj; exact (HSw.out _ hs).2.2 rfl) (HVc.out.to hkk (fun _ h => h)) (HAc.out.to hkk (fun _ h => h)) HLT.out (HRT.out bv false).1
        rw [zps (o := some bv) (r := some k') ⟨fun h => (by cases h), fun h => (by cases h)⟩, ← HZ.out] at h
        rw [HZE.out, hnpZ, hncZ, hnrZ]
        exact h.mono (fun e w' h => zq6 h)))
       obtain ⟨a0, c0, hv0⟩ := HV0'.out.form
       obtain ⟨m0, hm0⟩ : ∃ n, n = F.length := ⟨_, rfl⟩
       rw [← hm0] at hv0
       subst hv0
       have HUB : Hid (w11.heap.size ≤ bu ∧ w11.heap.size ≤ bv ∧ W.heap.size ≤ w11.heap.size) := hid (by
        have h2 := HUV.out.u0
        have h3 := HUV.out.v0
        have h4 := HU12.out
        have h5 := HX8.out.size
        have h6 := HS11.out
        omega)
       have hT11 : ∀ i, i < w11.heap.size → i < wc.heap.size ∧ i ≠ bu ∧ i ≠ bv := fun i hi => ⟨Nat.lt_of_lt_of_le hi HXc.out.size, by have := HUB.out; omega, by have := HUB.out; omega⟩
       have h9 : w9.heap.size < wA.heap.size := by rw [HWA.out, z02]; exact Nat.lt_succ_self _
       have h911 : wA.heap.size ≤ w11.heap.size := HG11.out.size
       have hKc9 : Kept (fun i => w8.heap.size ≤ i ∧ NB (some k) w9 i) w9 wc := fun i hi => (HXc.out.block i (Nat.lt_of_lt_of_le (Nat.lt_trans hi.2.1 h9) h911)).trans ((HC11.out i hi.1 (Nat.lt_trans hi.2.1 h9)).trans (HXA.out.block i hi.2.1))
       have hIc9 : ∀ i, (w8.heap.size ≤ i ∧ NB (some k) w9 i) → i < wc.heap.size ∧ i ≠ bu ∧ i ≠ bv := fun i hi => hT11 i (Nat.lt_of_lt_of_le (Nat.lt_trans hi.2.1 h9) h911)
       have hdc : ∀ i, wc.cell? ⟨w9.heap.size, i, none⟩ = wA.cell? ⟨w9.heap.size, i, none⟩ := fun i => World.cell?_of_block ((HXc.out.block _ (Nat.lt_of_lt_of_le h9 h911)).trans (HC11.out _ HG9.out.size h9))
       have hk11 : k < w11.heap.size := by
        have h1 := HKK.out.2
        have h5 := HY8.out.size
        have h6 := HY7.out.size
        have h7 := HS11.out
        omega
       have hk'11 : k' < w11.heap.size := Nat.lt_of_lt_of_le HKK'.out.2 HS11.out
       have hm1 : MeterAt wc k X.2.1 := (HM9.out k rfl).1.blk (by
        have h2 := z09 (HM9.out k rfl).1.c0
        exact (HXc.out.block k hk11).trans ((HG11.out.block k (Nat.lt_trans h2 h9) (fun e => HNE.out (Option.some.inj e))).trans (HXA.out.block k h2)))
       have hm2 : MeterAt wc k' Z.2.1 := (HM11.out k' rfl).1.blk (HXc.out.block k' hk'11)
       have hWc : Ext W wc := ⟨HXc.out.os.trans (HG11.out.os.trans (HXA.out.os.trans (HG9.out.os.trans HX8.out.os))), HXc.out.tape.trans (HG11.out.tape.trans (HXA.out.tape.trans (HG9.out.tape.trans HX8.out.tape))), HXc.out.output.trans (HG11.out.output.trans (HXA.out.output.trans (HG9.out.output.trans HX8.out.output))), Nat.le_trans HUB.out.2.2 HXc.out.size, fun i hi => (HXc.out.block i (Nat.lt_of_lt_of_le hi HUB.out.2.2)).trans ((HB11.out i (Nat.lt_of_lt_of_le hi HX8.out.size) (by have := HKK.out.1; omega) (by have := HKK'.out.1; omega)).trans (HX8.out.block i hi))⟩
       have hFL : z16 (fun i => i < wc.heap.size ∧ i ≠ bu ∧ i ≠ bv) wc (.slice al nl cl) l := HL.out.to (fun i hi => hWc.block i hi) (fun i hi => hT11 i (Nat.lt_of_lt_of_le hi HUB.out.2.2))
       have hXok : xe = 0 → Fit 50 100000 X.2.2.1 ∧ ∀ p ∈ X.2.2.2.2, Fit 50 100000 p := fun h0 => by
        have h1 := (HRT.out k true).2
        have h2 := zq5 (o := some k) (w := true) (ls := L) L.length s0 F (List.replicate L.length 0) (List.replicate L.length [])
        rw [← HX.out] at h1 h2
        have h3 := h1 (HXE.out.symm.trans h0)
        have h4 := h2 (HXE.out.symm.trans h0)
        rw [List.length_replicate] at h4
        refine ⟨h3.1, fun p hp => ?_⟩
        obtain ⟨i, hi, rfl⟩ := List.getElem_of_mem hp
        have h5 := h3.2 i (by omega)
        rwa [List.getD_eq_getElem?_getD, List.getElem?_eq_getElem hi, Option.getD_some] at h5
       have hZok : ze = 0 → Fit 50 100000 Z.2.2.1 := fun h0 => by
        have h1 := (HRT.out k' false).2
        rw [← HZ.out] at h1
        exact (h1 (HZE.out.symm.trans h0)).1
       have hzr : z05 (fun i => i < wc.heap.size ∧ i ≠ bu ∧ i ≠ bv) wc (.slice ar2 nr2 cr2) (ofP Z.2.2.1) := HR11.out.to (fun i hi => HXc.out.block i hi.2.1) (fun i hi => hT11 i hi.2.1)
       have hzp : Ints (fun i => i < wc.heap.size ∧ i ≠ bu ∧ i ≠ bv) wc (.slice ap2 np2 cp2) Z.2.2.2.1 := HP11.out.to (fun i hi => HXc.out.block i hi.2.1) (fun i hi => hT11 i hi.2.1)
       refine hKr _ _ ?_
       refine zq4 (c := nxN 11 (Tryz.f5.body.getD .ret)) (by kernel_rfl) ?_
       exact zly (S := Plus (Old W) w4 w7) (bd := w9.heap.size) (k := k) (k' := k') (sX := X.2.1) (sZ := Z.2.1) (rX := X.2.2.1) (rZ := Z.2.2.1) (nX := X.2.2.2.1) (nZ := Z.2.2.2.1) (cX := X.2.2.2.2) (cZ := Z.2.2.2.2) (l := l)
        HUV.out.ne ⟨Nat.le_trans HUB.out.2.2 HUB.out.1, HBU.out _ rfl⟩ ⟨Nat.le_trans HUB.out.2.2 HUB.out.2.1, HBV.out _ rfl⟩ hWc HSw.out CX.out CZ.out HA1'.out HW3c.out HSb.out hw1 hw2
        (hT11 _ (Nat.lt_of_lt_of_le h9 h911)) ((hdc 0).trans HDD.out.1) ((hdc 1).trans HDD.out.2.1) ((hdc 2).trans HDD.out.2.2)
        (HP9.out.to hKc9 hIc9) (HC9.out.to hKc9 hIc9) (HR9.out.to hKc9 hIc9) hzr hzp hFL HSM.out.2 HMC.out hm1 (hT11 k hk11).2 hm2 (hT11 k' hk'11).2 hXok hZok
   ·exact absurd HMA.out hno
  ·have HNO := hid hno
   have CY := hid (fun Y => zwm fu b c d Y hno)
   clear hx4 hno
   go_wp2_with (first | (at_builtin; refine z3e _ rfl (.tmp 41) (.tmp 42) rfl (.slice af nf cf) al nl cl f l rfl rfl HF4.out HL4.out (fun _ h => h) HML.out ?_; intro v6 w6 hp6 hx6; have HP6 := hid (hp6.to (S' := Old w6) (Kept.refl _ _) (z1i (fun _ h => h) hx6)); have HX6 := hid hx6; obtain ⟨a6, c6, rfl⟩ := hp6.form; obtain ⟨n6, hn6⟩ : ∃ n, n = (f :: l).length := ⟨_, rfl⟩; rw [← hn6] at HP6; rw [← hn6]; clear hp6 hx6 hn6))
   have HPL1 := hid (zce (S := Old w6) _ _ w6 HP6.out (fun _ h => h) HG3.out.1 HG3.out.2)
   obtain ⟨ba, hba⟩ : ∃ b, b = (f :: l).all mayT := ⟨_, rfl⟩
   rw [← hba] at HPL1
   clear hba
   with_reducible refine HPL1.out.mono ?_
   rintro e w7 ⟨vw, rfl, -, hx7⟩
   have HY7 := hid (HX6.out.trans hx7)
   have HX7 := hid (HX4.out.trans HY7.out)
   have k0 := HY7.out.cell HK4.out.1
   have k1 := HY7.out.cell HK4.out.2.1
   have k2 := HY7.out.cell HK4.out.2.2.1
   have k3 := HY7.out.cell HK4.out.2.2.2
   clear hx7
   go_wp2_with fail
   with_reducible refine (CY.out _).mono ?_
   rintro e w8 ⟨rfl, hx8⟩
   have HX8 := hid (HX7.out.trans hx8)
   clear hx8 k0 k1 k2 k3
   go_wp2_with fail
   with_reducible refine (z2q _).mono ?_
   rintro e w9 ⟨rfl, hx9⟩
   have HX9 := hid (HX8.out.trans hx9)
   clear hx9
   go_wp2
   all_goals
    go_ret
    exact ⟨rfl, HX9.out⟩
end
section
open Go.RowKit Go.Deep Go.ChangeShapes Go.WideShapes Go.ChangeAt
theorem zct (os : Os) (started : os.Started) (H : Type) (enc : TypeId × Value → H) :
  ReturnsInHanded {} Tryz.checked os 5 .any (Rows.chainRestsSpec.pre6 enc Tryz.prog Tryz.f5 Rows.chainRestsRow.domain false) (Rows.chainRestsSpec.post enc Tryz.prog Tryz.f5 false true false false) := by
 refine returnsInHanded_of_change_sized (C := Tryz.checked) Tryz.own started (by kernel_rfl) Tryz.func5
  (ChangeSpec.witness6 (enc := enc) (C := Tryz.checked) false ⟨#[], #[.slice none 0 0, .slice none 0 0, .agg #[.int .i64 0, .int .i64 0, .int .i64 0, .int .i64 0]], []⟩ 8 (by kernel_rfl) (by kernel_rfl) (by kernel_rfl) (by kernel_rfl)) ?_
 intro W base args ds gs before hval0 hW _ hsz _
 have hval : ∀ (j : Nat) t v, Tryz.f5.params[j]? = some t → args[j]? = some v → Value.okWide Tryz.prog W .any base t v := hval0
 have hW' := hW
 obtain ⟨p, q, hA0, hV, _, _, _⟩ := hW'
 have hA : DataW.TrodAll enc Tryz.prog W 0 (fun _ => true) true Tryz.f5.params.toList args.toList ds p := hA0
 rw [Tryz.params5] at hA hval
 obtain ⟨v0, v1, v2, d0, d1, d2, p0, p1, p2, rfl, rfl, rfl, h0, h1, h2⟩ := trodAll_three hA
 obtain ⟨rfl, rfl⟩ := trodVars_none hV
 have hl1 : zjs 24 d1 := fun k hk => by
  have := List.all_eq_true.1 hsz k (DataW.weights_mem_each (j := 1) (t := 24) (d := d1) rfl rfl k hk)
  simpa using this
 obtain ⟨fuel0, hf0⟩ := h0
 rw [zb2 Tryz.underlying23 (hval 0 _ v0 rfl rfl)] at hf0
 obtain ⟨x0, hx0⟩ := zcu hf0
 obtain ⟨fuel1, hf1⟩ := h1
 rw [zb2 Tryz.underlying24 (hval 1 _ v1 rfl rfl)] at hf1
 obtain ⟨x1, hx1, hm1⟩ := zad hf1 hl1
 obtain ⟨la, lb, lc, ld, rfl, ka, kb, kc, kd⟩ := zgo (hval 2 _ v2 rfl rfl) h2
 refine (zi6 hx0 hx1 hm1).mono fun e W' h => ?_
 obtain ⟨rfl, hb⟩ := h
 exact ⟨_, rfl, zq9 hW rfl rfl rfl (by rw [Tryz.params5]; intro t ht; simp at ht; rcases ht with rfl | rfl | rfl <;> exact ⟨by kernel_rfl, by decide +kernel⟩) hb⟩
theorem rests16_holds : Rows.ChainRestsSaid :=
 OpenClaim.holds_of_wide 5 Tryz.f5 rfl rfl rfl rfl rfl rfl rfl ⟨rfl, rfl, rfl, rfl, rfl⟩ rfl rfl rfl rfl rfl (by kernel_rfl) Tryz.func5 (by kernel_rfl)
  (of_decide_eq_true (by kernel_rfl)) (by unfold Func.isWrapper; first | (rw [if_pos (by decide +kernel)]; kernel_rfl) | (rw [if_neg (by decide +kernel)]; exact ⟨rfl, rfl⟩))
  (fun os started H enc _ => zct os started H enc)
end
end Go.Proofs.YthdcaablomgboaaGreat
