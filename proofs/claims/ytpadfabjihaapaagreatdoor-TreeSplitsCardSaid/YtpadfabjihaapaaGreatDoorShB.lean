/- The walk of sha's Block. -/
import Derived.Test.YtpadfabjihaapaaGreatDoorShA
import Derived.Test.YtpadfabjihaapaaGreatDoorReg
import Derived.Deep.RegionHeld3
import Derived.Sort.AtCall
namespace Go.Proofs.YtpadfabjihaapaaGreatDoor
open Go.RowKit
set_option linter.unusedVariables false

/-- Numbers of 32 bits as cells. -/
def uc32 (x : Int) : Value := .int .u32 x
def a8 (a b c d e f g h : Int) : Array Value := #[.int .u32 a, .int .u32 b, .int .u32 c, .int .u32 d, .int .u32 e, .int .u32 f, .int .u32 g, .int .u32 h]


theorem IsRd.set_cell {w : World} {g r i : Nat} {u : Value} {l : List UInt8} {at_ : Nat} {err : Int} (h : IsRd w g l at_ err) (hn : g ≠ r) (hc : ∃ c e f, w.heap[r]? = some (.cells c e f) ∧ ∀ n, Value.int .u8 n ∉ c.toList) : IsRd (w.setCell ⟨r, i, none⟩ u) g l at_ err := by
  obtain ⟨c, e, f, h0, h00⟩ := hc
  obtain ⟨h1, h2, v, h3, h4, h5⟩ := h
  exact ⟨h1, h2, v, set_other h3 hn, h4.kept (grown_setCell w r i u) h0 h00, h5⟩
theorem no_u8 (ws : List Int) : ∀ n, Value.int .u8 n ∉ (ws.map uc32).toArray.toList := by
  intro n h
  simp [uc32] at h
def xor32 (x y : Int) : Int := bits BinOp.xor IntKind.u32 x y
def sig0 (x : Int) : Int := bits BinOp.xor IntKind.u32 (bits BinOp.xor IntKind.u32 (rotr 7 x) (rotr 18 x)) (x / 8)
def sig1 (x : Int) : Int := bits BinOp.xor IntKind.u32 (bits BinOp.xor IntKind.u32 (rotr 17 x) (rotr 19 x)) (x / 1024)
/-- A number of the schedule out of those ahead of it. -/
def wstep (L : List Int) (t : Nat) : Int := (sig1 (L.getD (t - 2) 0) + L.getD (t - 7) 0 + sig0 (L.getD (t - 15) 0) + L.getD (t - 16) 0) % 4294967296
theorem getD_take {ws : List Int} {t i : Nat} (h : i < t) (hw : i < ws.length) : (ws.take t).getD i 0 = ws[i] := by
  rw [List.getD_eq_getElem?_getD, List.getElem?_take, if_pos h, List.getElem?_eq_getElem hw]; rfl
/-- The first t numbers of the schedule. -/
def sched (l : List UInt8) : Nat → List Int
  | 0 => []
  | t + 1 => sched l t ++ [if t < 16 then (num ((l.drop (4 * t)).take 4) : Int) else wstep (sched l t) t]
theorem sched_len (l : List UInt8) : ∀ t, (sched l t).length = t
  | 0 => rfl
  | t + 1 => by simp [sched, sched_len l t]

theorem c8 {w : World} {g : Nat} {ty : TypeId} {x0 x1 x2 x3 x4 x5 x6 x7 : Int} (h : w.heap[g]? = some (.cells (a8 x0 x1 x2 x3 x4 x5 x6 x7) ty (0, 0))) :
    w.cell? ⟨g, 0, none⟩ = some (.int .u32 x0) ∧ w.cell? ⟨g, 1, none⟩ = some (.int .u32 x1) ∧ w.cell? ⟨g, 2, none⟩ = some (.int .u32 x2) ∧ w.cell? ⟨g, 3, none⟩ = some (.int .u32 x3) ∧
    w.cell? ⟨g, 4, none⟩ = some (.int .u32 x4) ∧ w.cell? ⟨g, 5, none⟩ = some (.int .u32 x5) ∧ w.cell? ⟨g, 6, none⟩ = some (.int .u32 x6) ∧ w.cell? ⟨g, 7, none⟩ = some (.int .u32 x7) := by
  refine ⟨?_, ?_, ?_, ?_, ?_, ?_, ?_, ?_⟩ <;> (rw [block_cell h]; rfl)
theorem f8 {w : World} {g : Nat} {ty : TypeId} {c : Array Value} (h : w.heap[g]? = some (.cells c ty (0, 0))) :
    w.frozen? ⟨g, 0, none⟩ = false ∧ w.frozen? ⟨g, 1, none⟩ = false ∧ w.frozen? ⟨g, 2, none⟩ = false ∧ w.frozen? ⟨g, 3, none⟩ = false ∧ w.frozen? ⟨g, 4, none⟩ = false ∧ w.frozen? ⟨g, 5, none⟩ = false ∧ w.frozen? ⟨g, 6, none⟩ = false ∧ w.frozen? ⟨g, 7, none⟩ = false :=
  ⟨block_free h 0, block_free h 1, block_free h 2, block_free h 3, block_free h 4, block_free h 5, block_free h 6, block_free h 7⟩

theorem quiet_of2 {P : Program} {f : FuncId} {args : Array Value} {w : World} {n0 n : Nat} {v : Value} (h : Calls P f args (w.drewN (n0 + n)) fun e w' => e = .returned v ∧ ∃ m, w' = (w.drewN (n0 + n)).drewN m) :
    Calls P f args (w.drewN (n0 + n)) fun e w'' => e = .returned v ∧ ∃ m, w'' = w.drewN (n0 + m) :=
  Calls.mono h fun _ _ ⟨he, m, hm⟩ => ⟨he, n + m, by rw [hm, World.drewN_drewN, Nat.add_assoc]⟩
theorem sa0 (x0 x1 x2 x3 x4 x5 x6 x7 y : Int) : (a8 x0 x1 x2 x3 x4 x5 x6 x7).setIfInBounds 0 (.int .u32 y) = a8 y x1 x2 x3 x4 x5 x6 x7 := by simp [a8]
theorem sa1 (x0 x1 x2 x3 x4 x5 x6 x7 y : Int) : (a8 x0 x1 x2 x3 x4 x5 x6 x7).setIfInBounds 1 (.int .u32 y) = a8 x0 y x2 x3 x4 x5 x6 x7 := by simp [a8]
theorem sa2 (x0 x1 x2 x3 x4 x5 x6 x7 y : Int) : (a8 x0 x1 x2 x3 x4 x5 x6 x7).setIfInBounds 2 (.int .u32 y) = a8 x0 x1 y x3 x4 x5 x6 x7 := by simp [a8]
theorem sa3 (x0 x1 x2 x3 x4 x5 x6 x7 y : Int) : (a8 x0 x1 x2 x3 x4 x5 x6 x7).setIfInBounds 3 (.int .u32 y) = a8 x0 x1 x2 y x4 x5 x6 x7 := by simp [a8]
theorem sa4 (x0 x1 x2 x3 x4 x5 x6 x7 y : Int) : (a8 x0 x1 x2 x3 x4 x5 x6 x7).setIfInBounds 4 (.int .u32 y) = a8 x0 x1 x2 x3 y x5 x6 x7 := by simp [a8]
theorem sa5 (x0 x1 x2 x3 x4 x5 x6 x7 y : Int) : (a8 x0 x1 x2 x3 x4 x5 x6 x7).setIfInBounds 5 (.int .u32 y) = a8 x0 x1 x2 x3 x4 y x6 x7 := by simp [a8]
theorem sa6 (x0 x1 x2 x3 x4 x5 x6 x7 y : Int) : (a8 x0 x1 x2 x3 x4 x5 x6 x7).setIfInBounds 6 (.int .u32 y) = a8 x0 x1 x2 x3 x4 x5 y x7 := by simp [a8]
theorem sa7 (x0 x1 x2 x3 x4 x5 x6 x7 y : Int) : (a8 x0 x1 x2 x3 x4 x5 x6 x7).setIfInBounds 7 (.int .u32 y) = a8 x0 x1 x2 x3 x4 x5 x6 y := by simp [a8]
theorem set8 {w : World} {g : Nat} {ty : TypeId} {x0 x1 x2 x3 x4 x5 x6 x7 y0 y1 y2 y3 y4 y5 y6 y7 : Int} (h : w.heap[g]? = some (.cells (a8 x0 x1 x2 x3 x4 x5 x6 x7) ty (0, 0))) :
    ((((((((w.setCell ⟨g, 7, none⟩ (.int .u32 y7)).setCell ⟨g, 6, none⟩ (.int .u32 y6)).setCell ⟨g, 5, none⟩ (.int .u32 y5)).setCell ⟨g, 4, none⟩ (.int .u32 y4)).setCell ⟨g, 3, none⟩ (.int .u32 y3)).setCell ⟨g, 2, none⟩ (.int .u32 y2)).setCell ⟨g, 1, none⟩ (.int .u32 y1)).setCell ⟨g, 0, none⟩ (.int .u32 y0)).heap[g]? = some (.cells (a8 y0 y1 y2 y3 y4 y5 y6 y7) ty (0, 0)) :=
  by
  have h7 := block_setCell (i := 7) h (.int .u32 y7)
  rw [sa7] at h7
  have h6 := block_setCell (i := 6) h7 (.int .u32 y6)
  rw [sa6] at h6
  have h5 := block_setCell (i := 5) h6 (.int .u32 y5)
  rw [sa5] at h5
  have h4 := block_setCell (i := 4) h5 (.int .u32 y4)
  rw [sa4] at h4
  have h3 := block_setCell (i := 3) h4 (.int .u32 y3)
  rw [sa3] at h3
  have h2 := block_setCell (i := 2) h3 (.int .u32 y2)
  rw [sa2] at h2
  have h1 := block_setCell (i := 1) h2 (.int .u32 y1)
  rw [sa1] at h1
  have h0 := block_setCell (i := 0) h1 (.int .u32 y0)
  rw [sa0] at h0
  exact h0
theorem up8 {w : World} {g : Nat} {ty : TypeId} {x0 x1 x2 x3 x4 x5 x6 x7 y0 y1 y2 y3 y4 y5 y6 y7 : Int} (h : w.heap[g]? = some (.cells (a8 x0 x1 x2 x3 x4 x5 x6 x7) ty (0, 0))) :
    ((((((((w.setCell ⟨g, 0, none⟩ (.int .u32 y0)).setCell ⟨g, 1, none⟩ (.int .u32 y1)).setCell ⟨g, 2, none⟩ (.int .u32 y2)).setCell ⟨g, 3, none⟩ (.int .u32 y3)).setCell ⟨g, 4, none⟩ (.int .u32 y4)).setCell ⟨g, 5, none⟩ (.int .u32 y5)).setCell ⟨g, 6, none⟩ (.int .u32 y6)).setCell ⟨g, 7, none⟩ (.int .u32 y7)).heap[g]? = some (.cells (a8 y0 y1 y2 y3 y4 y5 y6 y7) ty (0, 0)) := by
  have h0 := block_setCell (i := 0) h (.int .u32 y0)
  rw [sa0] at h0
  have h1 := block_setCell (i := 1) h0 (.int .u32 y1)
  rw [sa1] at h1
  have h2 := block_setCell (i := 2) h1 (.int .u32 y2)
  rw [sa2] at h2
  have h3 := block_setCell (i := 3) h2 (.int .u32 y3)
  rw [sa3] at h3
  have h4 := block_setCell (i := 4) h3 (.int .u32 y4)
  rw [sa4] at h4
  have h5 := block_setCell (i := 5) h4 (.int .u32 y5)
  rw [sa5] at h5
  have h6 := block_setCell (i := 6) h5 (.int .u32 y6)
  rw [sa6] at h6
  have h7 := block_setCell (i := 7) h6 (.int .u32 y7)
  rw [sa7] at h7
  exact h7
theorem up8_ext {a w : World} {g : Nat} {y0 y1 y2 y3 y4 y5 y6 y7 : Value} (h : Ext a w) (hg : a.heap.size ≤ g) : Ext a ((((((((w.setCell ⟨g, 0, none⟩ y0).setCell ⟨g, 1, none⟩ y1).setCell ⟨g, 2, none⟩ y2).setCell ⟨g, 3, none⟩ y3).setCell ⟨g, 4, none⟩ y4).setCell ⟨g, 5, none⟩ y5).setCell ⟨g, 6, none⟩ y6).setCell ⟨g, 7, none⟩ y7) :=
  (((((((h.setCell (p := ⟨g, _, none⟩) hg _).setCell (p := ⟨g, _, none⟩) hg _).setCell (p := ⟨g, _, none⟩) hg _).setCell (p := ⟨g, _, none⟩) hg _).setCell (p := ⟨g, _, none⟩) hg _).setCell (p := ⟨g, _, none⟩) hg _).setCell (p := ⟨g, _, none⟩) hg _).setCell (p := ⟨g, _, none⟩) hg _
theorem set8_keeps {w : World} {g k : Nat} {x : Obj} {y0 y1 y2 y3 y4 y5 y6 y7 : Value} (h : w.heap[k]? = some x) (hn : k ≠ g) :
    ((((((((w.setCell ⟨g, 7, none⟩ y7).setCell ⟨g, 6, none⟩ y6).setCell ⟨g, 5, none⟩ y5).setCell ⟨g, 4, none⟩ y4).setCell ⟨g, 3, none⟩ y3).setCell ⟨g, 2, none⟩ y2).setCell ⟨g, 1, none⟩ y1).setCell ⟨g, 0, none⟩ y0).heap[k]? = some x :=
  set_other (set_other (set_other (set_other (set_other (set_other (set_other (set_other h hn) hn) hn) hn) hn) hn) hn) hn
theorem set8_ext {a w : World} {g : Nat} {y0 y1 y2 y3 y4 y5 y6 y7 : Value} (h : Ext a w) (hg : a.heap.size ≤ g) :
    Ext a ((((((((w.setCell ⟨g, 7, none⟩ y7).setCell ⟨g, 6, none⟩ y6).setCell ⟨g, 5, none⟩ y5).setCell ⟨g, 4, none⟩ y4).setCell ⟨g, 3, none⟩ y3).setCell ⟨g, 2, none⟩ y2).setCell ⟨g, 1, none⟩ y1).setCell ⟨g, 0, none⟩ y0) :=
  (((((((h.setCell (p := ⟨g, _, none⟩) hg _).setCell (p := ⟨g, _, none⟩) hg _).setCell (p := ⟨g, _, none⟩) hg _).setCell (p := ⟨g, _, none⟩) hg _).setCell (p := ⟨g, _, none⟩) hg _).setCell (p := ⟨g, _, none⟩) hg _).setCell (p := ⟨g, _, none⟩) hg _).setCell (p := ⟨g, _, none⟩) hg _
/-- The eight numbers. -/
structure S8 where
  a : Int
  b : Int
  c : Int
  d : Int
  e : Int
  f : Int
  g : Int
  h : Int
def S8.cs (s : S8) : Array Value := a8 s.a s.b s.c s.d s.e s.f s.g s.h
def t1of (k x : Int) (s : S8) : Int :=
  (s.h + bits BinOp.xor IntKind.u32 (bits BinOp.xor IntKind.u32 (rotr 6 s.e) (rotr 11 s.e)) (rotr 25 s.e) +
    bits BinOp.xor IntKind.u32 (bits BinOp.and IntKind.u32 s.e s.f) (bits BinOp.and IntKind.u32 (bits BinOp.xor IntKind.u32 IntKind.u32.max s.e) s.g) + k + x) % 4294967296
def t2of (s : S8) : Int :=
  (bits BinOp.xor IntKind.u32 (bits BinOp.xor IntKind.u32 (rotr 2 s.a) (rotr 13 s.a)) (rotr 22 s.a) +
    bits BinOp.xor IntKind.u32 (bits BinOp.xor IntKind.u32 (bits BinOp.and IntKind.u32 s.a s.b) (bits BinOp.and IntKind.u32 s.a s.c)) (bits BinOp.and IntKind.u32 s.b s.c)) % 4294967296
def rnd (k x : Int) (s : S8) : S8 := ⟨(t1of k x s + t2of s) % 4294967296, s.a, s.b, s.c, (s.d + t1of k x s) % 4294967296, s.e, s.f, s.g⟩
def rounds (K W : List Int) (s : S8) : Nat → S8
  | 0 => s
  | t + 1 => rnd (K.getD t 0) (W.getD t 0) (rounds K W s t)
theorem rounds_step {K W : List Int} {s q : S8} {t : Nat} {kk ww : Int} (hq : q = rounds K W s t) (hk : kk = K.getD t 0) (hw : ww = W.getD t 0) : rnd kk ww q = rounds K W s (t + 1) := by
  subst hq hk hw; rfl
def kTab : List Int := [1116352408, 1899447441, 3049323471, 3921009573, 961987163, 1508970993, 2453635748, 2870763221, 3624381080, 310598401, 607225278, 1426881987, 1925078388, 2162078206, 2614888103, 3248222580, 3835390401, 4022224774, 264347078, 604807628, 770255983, 1249150122, 1555081692, 1996064986, 2554220882, 2821834349, 2952996808, 3210313671, 3336571891, 3584528711, 113926993, 338241895, 666307205, 773529912, 1294757372, 1396182291, 1695183700, 1986661051, 2177026350, 2456956037, 2730485921, 2820302411, 3259730800, 3345764771, 3516065817, 3600352804, 4094571909, 275423344, 430227734, 506948616, 659060556, 883997877, 958139571, 1322822218, 1537002063, 1747873779, 1955562222, 2024104815, 2227730452, 2361852424, 2428436474, 2756734187, 3204031479, 3329325298]
def addS (p q : S8) : S8 := ⟨(p.a + q.a) % 4294967296, (p.b + q.b) % 4294967296, (p.c + q.c) % 4294967296, (p.d + q.d) % 4294967296, (p.e + q.e) % 4294967296, (p.f + q.f) % 4294967296, (p.g + q.g) % 4294967296, (p.h + q.h) % 4294967296⟩
/-- What the numbers become behind a block. -/
def blockS (p : S8) (l : List UInt8) : S8 := addS p (rounds kTab (sched l 64) p 64)
def S8.l (s : S8) : List Int := [s.a, s.b, s.c, s.d, s.e, s.f, s.g, s.h]
theorem S8.cs_l (s : S8) : s.cs = (s.l.map uc32).toArray := rfl
theorem cell_uc {w : World} {g i : Nat} {ty : TypeId} {ls : List Int} (h : w.heap[g]? = some (.cells (ls.map uc32).toArray ty (0, 0))) (hi : i < ls.length) : w.cell? ⟨g, i, none⟩ = some (.int .u32 (ls.getD i 0)) := by
  rw [block_cell h, List.getD_eq_getElem?_getD, List.getElem?_eq_getElem hi]
  simp [uc32, hi]
theorem getD_drop {l m : List Int} {i : Nat} (h : l.drop i = m.drop i) : l.getD i 0 = m.getD i 0 := by
  have h1 := congrArg (fun z => z[0]?) h
  simp only [List.getElem?_drop, Nat.add_zero] at h1
  rw [List.getD_eq_getElem?_getD, h1, List.getD_eq_getElem?_getD]
theorem addS_get (p q : S8) : ∀ i, i < 8 → (addS p q).l.getD i 0 = (p.l.getD i 0 + q.l.getD i 0) % 4294967296
  | 0, _ => rfl
  | 1, _ => rfl
  | 2, _ => rfl
  | 3, _ => rfl
  | 4, _ => rfl
  | 5, _ => rfl
  | 6, _ => rfl
  | 7, _ => rfl
  | i + 8, h => by omega
/-- The table of constants lies in the first variable's block, the start in the second one's. -/
def startS : S8 := ⟨1779033703, 3144134277, 1013904242, 2773480762, 1359893119, 2600822924, 528734635, 1541459225⟩
structure Tabs (w : World) : Prop where
  k : ∀ i, i < 64 → w.cell? ⟨2, i, none⟩ = some (.int .u32 (kTab.getD i 0))
  s : ∀ i, i < 8 → w.cell? ⟨1, i, none⟩ = some (.int .u32 (startS.l.getD i 0))
theorem Tabs.ext {w w' : World} (h : Tabs w) (k : Ext w w') : Tabs w' := ⟨fun i hi => k.cell (h.k i hi), fun i hi => k.cell (h.s i hi)⟩

set_option maxHeartbeats 4000000 in
set_option maxRecDepth 100000 in
theorem shaBlock (w : World) (p0 p1 p2 p3 p4 p5 p6 p7 : Int) (l : List UInt8) (hl : l.length = 64) (hK : Tabs w) :
    Calls Tryz.prog 144 #[.agg (a8 p0 p1 p2 p3 p4 p5 p6 p7), .agg (l.map bc).toArray] w fun e w' => e = .returned (.agg (blockS ⟨p0, p1, p2, p3, p4, p5, p6, p7⟩ l).cs) ∧ Ext w w' := by
  have hPost : blockS ⟨p0, p1, p2, p3, p4, p5, p6, p7⟩ l = blockS ⟨p0, p1, p2, p3, p4, p5, p6, p7⟩ l := rfl
  generalize hB : blockS ⟨p0, p1, p2, p3, p4, p5, p6, p7⟩ l = BB
  have HBB := Lib.hid hB
  clear hB hPost
  unfold a8
  go_enter Tryz.func144, Tryz.ntmps144
  go_wp2_with fail
  refine Calls.mono (octetRead _ _ l ((((IsB.new (b := w.heap.size + 1) l (by simp) hl rfl (by omega)).ext ((Ext.refl _).alloc _)).ext ((Ext.refl _).alloc _))) (by omega)) ?_
  rintro e w1 ⟨gr, rfl, hgr, hrd, x1⟩
  have b0 := x1.keeps (blk_old (blk_old (blk_old (blk_new rfl))))
  have b2 := x1.keeps (blk_old (blk_new (b := w.heap.size + 1 + 1) (by simp)))
  have b3 := x1.keeps (blk_new (b := w.heap.size + 1 + 1 + 1) (by simp))
  have X1 : Ext w w1 := ((((Ext.refl w).alloc _).alloc _).alloc _).alloc _ |>.trans x1
  have hgr3 : w.heap.size + 1 + 1 + 1 < gr := by simp at hgr; omega
  clear hgr x1
  have hz : ∃ ws : List Int, ws.length = 64 ∧ ws.take 0 = sched l 0 ∧ w1.heap[w.heap.size + 1 + 1 + 1]? = some (.cells (ws.map uc32).toArray 156 (0, 0)) := ⟨List.replicate 64 0, rfl, rfl, b3⟩
  clear b3
  generalize hG : w.heap.size = G at *
  go_wp2_with fail
  go_loopg [21] 64 (fun g s21 wr => ∃ (t : Nat) (ws : List Int), t ≤ 64 ∧ 64 - t ≤ g ∧ s21 = .int .i64 t ∧ ws.length = 64 ∧ ws.take t = sched l t ∧ wr.heap[G + 1 + 1 + 1]? = some (.cells (ws.map uc32).toArray 156 (0, 0)) ∧ IsRd wr gr l (min (4 * t) 64) 0 ∧
    wr.heap[G]? = some (.cells (a8 p0 p1 p2 p3 p4 p5 p6 p7) 158 (0, 0)) ∧ wr.heap[G + 1 + 1]? = some (.cells (a8 0 0 0 0 0 0 0 0) 158 (0, 0)) ∧ Ext w wr)
  case atStart =>
    obtain ⟨ws, h1, h2, h3⟩ := hz
    exact ⟨0, ws, Nat.zero_le _, by omega, rfl, h1, h2, h3, hrd, b0, b2, X1⟩
  case round =>
    obtain ⟨t, ws, ht, hg, rfl, hwl, hws, hgw, hrd, hb0, hb2, xr⟩ := hrel
    by_cases hlt : t < 64
    · --DEV<
      by_cases h16 : t < 16
      · have hlw : t < (ws.map uc32).toArray.size := by simp; omega
        go_wp2_with fail
        refine Calls.mono (octetU32 _ gr l _ 0 hrd) ?_
        rintro e w5 ⟨rfl, hrd5, hg5⟩
        have hgw5 := grown_other hg5 hgw (by omega)
        have hb05 := grown_other hg5 hb0 (by omega)
        have hb25 := grown_other hg5 hb2 (by omega)
        have c1 : w5.cell? ⟨G + 1 + 1 + 1, t, none⟩ = some (.int .u32 ws[t]) := by rw [block_cell hgw5]; simp [uc32]
        have f1 := block_free hgw5 t
        go_wp2_with fail
        go_roundg (64 - (t + 1))
        case measure => omega
        case rel =>
          rw [show min (4 * t) 64 = 4 * t from by omega] at hrd5 ⊢
          have hnx := rd_ok (l := l) (at_ := 4 * t) (m := 4) (by omega)
          have hnx1 : rNext l (4 * t) 0 4 = (4 * t + 4, 0) := hnx.1
          have hnx2 : rTake l (4 * t) 0 4 = (l.drop (4 * t)).take 4 := hnx.2
          rw [hnx1] at hrd5
          rw [hnx2]
          have hst : (ws.set t (num ((l.drop (4 * t)).take 4) : Int)).take (t + 1) = sched l (t + 1) := by
            rw [sched, if_pos h16, ← hws, List.take_add_one, List.getElem?_set_self (by omega), List.take_set_of_le (Nat.le_refl t)]
            rfl
          have hg3 := block_setCell hgw5 (i := t) (uc32 (num ((l.drop (4 * t)).take 4) : Int))
          rw [map_set] at hg3
          refine ⟨t + 1, ws.set t (num ((l.drop (4 * t)).take 4) : Int), by omega, by omega, by go_num, by simp [hwl], hst, hg3, ?_, set_other hb05 (by omega), set_other hb25 (by omega), ?_⟩
          · rw [show min (4 * (t + 1)) 64 = 4 * t + 4 from by omega]
            exact hrd5.set_cell (by omega) ⟨_, _, _, hgw5, no_u8 ws⟩
          · exact (xr.grown hg5 (fun k hk => by cases hk; omega)).setCell (p := ⟨_, _, none⟩) (by simp only; omega) _
      · obtain ⟨k, rfl⟩ : ∃ k, t = k + 16 := ⟨t - 16, by omega⟩
        have hlw : k + 16 < (ws.map uc32).toArray.size := by simp; omega
        have c15 : wr.cell? ⟨G + 1 + 1 + 1, k + 1, none⟩ = some (.int .u32 ws[k + 1]) := by rw [block_cell hgw]; simp [uc32]
        have c2 : wr.cell? ⟨G + 1 + 1 + 1, k + 14, none⟩ = some (.int .u32 ws[k + 14]) := by rw [block_cell hgw]; simp [uc32]
        have c7 : wr.cell? ⟨G + 1 + 1 + 1, k + 9, none⟩ = some (.int .u32 ws[k + 9]) := by rw [block_cell hgw]; simp [uc32]
        have c16 : wr.cell? ⟨G + 1 + 1 + 1, k, none⟩ = some (.int .u32 ws[k]) := by rw [block_cell hgw]; simp [uc32]
        have c0 : wr.cell? ⟨G + 1 + 1 + 1, k + 16, none⟩ = some (.int .u32 ws[k + 16]) := by rw [block_cell hgw]; simp [uc32]
        have f0 := block_free hgw (k + 16)
        have hwst : wstep (ws.take (k + 16)) (k + 16) = (sig1 ws[k + 14] + ws[k + 9] + sig0 ws[k + 1] + ws[k]) % 4294967296 := by
          unfold wstep
          rw [show k + 16 - 2 = k + 14 from by omega, show k + 16 - 7 = k + 9 from by omega, show k + 16 - 15 = k + 1 from by omega, show k + 16 - 16 = k from by omega,
            getD_take (by omega) (by omega), getD_take (by omega) (by omega), getD_take (by omega) (by omega), getD_take (by omega) (by omega)]
        have HST := Lib.hid hwst
        clear hwst
        generalize ws[k + 1] = x15 at *
        generalize ws[k + 14] = x2 at *
        generalize ws[k + 9] = x7 at *
        generalize ws[k] = x16 at *
        generalize ws[k + 16] = x0 at *
        go_wp2_with fail
        go_quiet (fail)
        go_wp2_with fail
        refine Calls.mono (shaRight _ x15 7 (by omega) (by omega)) ?_
        rintro e w6 ⟨rfl, h6⟩
        go_wp2_with fail
        refine Calls.mono (shaRight _ x15 18 (by omega) (by omega)) ?_
        rintro e w7 ⟨rfl, h7⟩
        go_wp2_with fail
        refine Calls.mono (shaRight _ x2 17 (by omega) (by omega)) ?_
        rintro e w8 ⟨rfl, h8⟩
        go_wp2_with fail
        refine Calls.mono (shaRight _ x2 19 (by omega) (by omega)) ?_
        rintro e w9 ⟨rfl, h9⟩
        have x9 : Ext wr w9 := ((((Ext.refl wr).drewN nq).trans (toExt h6)).trans (toExt h7)).trans ((toExt h8).trans (toExt h9))
        clear h6 h7 h8 h9
        have hb0 := x9.keeps hb0
        have hb2 := x9.keeps hb2
        have hrd := hrd.ext x9
        have hgw := x9.keeps hgw
        have c7 := x9.cell c7
        have c16 := x9.cell c16
        have c0 := x9.cell c0
        have f0 := block_free hgw (k + 16)
        have XR := xr.trans x9
        clear c15 c2
        have HGW := Lib.hid hgw
        have HB0 := Lib.hid hb0
        have HB2 := Lib.hid hb2
        have HRD := Lib.hid hrd
        have HWS := Lib.hid hws
        clear hgw hb0 hb2 hrd hws
        go_wp2_with fail
        go_region
        all_goals go_wp2_with fail
        go_roundg (64 - (k + 16 + 1))
        case measure => omega
        case rel =>
          have hv : (bits BinOp.xor IntKind.u32 (bits BinOp.xor IntKind.u32 (rotr 17 x2) (rotr 19 x2)) (x2 / 1024) + x7 +
                bits BinOp.xor IntKind.u32 (bits BinOp.xor IntKind.u32 (rotr 7 x15) (rotr 18 x15)) (x15 / 8) + x16) % 4294967296 = wstep (ws.take (k + 16)) (k + 16) := HST.out.symm
          rw [hv]
          generalize hz : wstep (ws.take (k + 16)) (k + 16) = z at *
          have hst : (ws.set (k + 16) z).take (k + 16 + 1) = sched l (k + 16 + 1) := by
            rw [sched, if_neg h16, ← HWS.out, hz, List.take_add_one, List.getElem?_set_self (by omega), List.take_set_of_le (Nat.le_refl _)]
            rfl
          have hg3 := block_setCell HGW.out (i := k + 16) (uc32 z)
          rw [map_set] at hg3
          have XS := XR.size
          refine ⟨k + 16 + 1, ws.set (k + 16) z, by omega, by omega, by go_num, by simp [hwl], hst, hg3, ?_, set_other HB0.out (by omega), set_other HB2.out (by omega), (XR.setCell (p := ⟨_, _, none⟩) (by simp only; omega) _).drew⟩
          rw [show min (4 * (k + 16 + 1)) 64 = min (4 * (k + 16)) 64 from by omega]
          exact IsRd.ext (HRD.out.set_cell (by omega) ⟨_, _, _, HGW.out, no_u8 ws⟩) ((Ext.refl _).drew)
    --DEV>
    · have : t = 64 := by omega
      subst this
      rw [List.take_of_length_le (by omega)] at hws
      obtain ⟨d0, d1, d2, d3, d4, d5, d6, d7⟩ := c8 hb0
      go_wp2_with fail
      have hgv := heap_alloc_new wr (.cells (a8 p0 p1 p2 p3 p4 p5 p6 p7) 158)
      have xv : Ext w (wr.alloc (.cells (a8 p0 p1 p2 p3 p4 p5 p6 p7) 158)) := xr.alloc _
      have hgw := blk_old (o := .cells (a8 p0 p1 p2 p3 p4 p5 p6 p7) 158) hgw
      have hb0 := blk_old (o := .cells (a8 p0 p1 p2 p3 p4 p5 p6 p7) 158) hb0
      have hb2 := blk_old (o := .cells (a8 p0 p1 p2 p3 p4 p5 p6 p7) 158) hb2
      have hV : G + 1 + 1 + 1 < wr.heap.size := block_lt ‹_›
      generalize hVV : wr.heap.size = V at *
      go_loopg [71] 64 (fun g s71 wr => ∃ (t : Nat) (q : S8), t ≤ 64 ∧ 64 - t ≤ g ∧ s71 = .int .i64 t ∧ q = rounds kTab ws ⟨p0, p1, p2, p3, p4, p5, p6, p7⟩ t ∧ wr.heap[V]? = some (.cells q.cs 158 (0, 0)) ∧
        wr.heap[G + 1 + 1 + 1]? = some (.cells (ws.map uc32).toArray 156 (0, 0)) ∧
        wr.heap[G]? = some (.cells (a8 p0 p1 p2 p3 p4 p5 p6 p7) 158 (0, 0)) ∧ wr.heap[G + 1 + 1]? = some (.cells (a8 0 0 0 0 0 0 0 0) 158 (0, 0)) ∧ Ext w wr)
      case atStart => exact ⟨0, _, Nat.zero_le _, by omega, rfl, rfl, hgv, hgw, hb0, hb2, xv⟩
      case round =>
        obtain ⟨t, q, ht, hg, rfl, hq, hgv, hgw, hb0, hb2, xr⟩ := hrel
        have HQ := Lib.hid hq
        clear hq
        by_cases hlt : t < 64
        · --DEV<
          obtain ⟨q0, q1, q2, q3, q4, q5, q6, q7⟩ := q
          have kt : wr.cell? ⟨2, t, none⟩ = some (.int .u32 (kTab.getD t 0)) := (hK.ext xr).k t hlt
          have wt : wr.cell? ⟨G + 1 + 1 + 1, t, none⟩ = some (.int .u32 (ws.getD t 0)) := by rw [block_cell hgw]; simp [uc32, show t < ws.length from by omega]
          obtain ⟨d0, d1, d2, d3, d4, d5, d6, d7⟩ := c8 hgv
          obtain ⟨f0, f1, f2, f3, f4, f5, f6, f7⟩ := f8 hgv
          generalize hkk : kTab.getD t 0 = kk at *
          generalize hww : ws.getD t 0 = ww at *
          have HKK := Lib.hid hkk.symm
          have HWW := Lib.hid hww.symm
          clear hkk hww
          go_wp2_with fail
          go_quiet (fail)
          go_wp2_with fail
          go_quiet (first
            | (go_at_call_has 158 (Value.int IntKind.i64 6); exact quiet_of2 (shaRight _ _ 6 (by omega) (by omega)))
            | (go_at_call_has 158 (Value.int IntKind.i64 11); exact quiet_of2 (shaRight _ _ 11 (by omega) (by omega)))
            | (go_at_call_has 158 (Value.int IntKind.i64 25); exact quiet_of2 (shaRight _ _ 25 (by omega) (by omega))))
          go_wp2_with fail
          go_quiet (first
            | (go_at_call_has 158 (Value.int IntKind.i64 2); exact quiet_of2 (shaRight _ _ 2 (by omega) (by omega)))
            | (go_at_call_has 158 (Value.int IntKind.i64 13); exact quiet_of2 (shaRight _ _ 13 (by omega) (by omega)))
            | (go_at_call_has 158 (Value.int IntKind.i64 22); exact quiet_of2 (shaRight _ _ 22 (by omega) (by omega))))
          have hrn : rnd kk ww ⟨q0, q1, q2, q3, q4, q5, q6, q7⟩ = ⟨(t1of kk ww ⟨q0, q1, q2, q3, q4, q5, q6, q7⟩ + t2of ⟨q0, q1, q2, q3, q4, q5, q6, q7⟩) % 4294967296, q0, q1, q2, (q3 + t1of kk ww ⟨q0, q1, q2, q3, q4, q5, q6, q7⟩) % 4294967296, q4, q5, q6⟩ := rfl
          simp only [t1of, t2of] at hrn
          generalize (q7 + bits BinOp.xor IntKind.u32 (bits BinOp.xor IntKind.u32 (rotr 6 q4) (rotr 11 q4)) (rotr 25 q4) +
            bits BinOp.xor IntKind.u32 (bits BinOp.and IntKind.u32 q4 q5) (bits BinOp.and IntKind.u32 (bits BinOp.xor IntKind.u32 IntKind.u32.max q4) q6) + kk + ww) % 4294967296 = T1 at *
          generalize (bits BinOp.xor IntKind.u32 (bits BinOp.xor IntKind.u32 (rotr 2 q0) (rotr 13 q0)) (rotr 22 q0) +
            bits BinOp.xor IntKind.u32 (bits BinOp.xor IntKind.u32 (bits BinOp.and IntKind.u32 q0 q1) (bits BinOp.and IntKind.u32 q0 q2)) (bits BinOp.and IntKind.u32 q1 q2)) % 4294967296 = T2 at *
          have HRN := Lib.hid hrn
          clear hrn
          go_wp2_with fail
          go_roundg (64 - (t + 1))
          case measure => omega
          case rel =>
            have e := xr.size
            exact ⟨t + 1, _, by omega, by omega, by go_num, rounds_step HQ.out HKK.out HWW.out, by rw [HRN.out]; exact set8 (((Ext.refl wr).drewN _).keeps hgv), set8_keeps (((Ext.refl wr).drewN _).keeps hgw) (by omega),
              set8_keeps (((Ext.refl wr).drewN _).keeps hb0) (by omega), set8_keeps (((Ext.refl wr).drewN _).keeps hb2) (by omega), set8_ext (xr.drewN _) (by omega)⟩
        --DEV>
        · have : t = 64 := by omega
          subst this
          rw [hws] at HQ
          go_wp2_with fail
          have hbg : wr.heap[G]? = some (.cells (((⟨p0, p1, p2, p3, p4, p5, p6, p7⟩ : S8).l).map uc32).toArray 158 (0, 0)) := hb0
          generalize hP : (⟨p0, p1, p2, p3, p4, p5, p6, p7⟩ : S8) = P at *
          have HP := Lib.hid hP
          clear hP
          have HWS := Lib.hid hws
          clear hb0 hgw hws
          go_loopg [160] 8 (fun g s160 wr => ∃ (i : Nat) (cur : List Int), i ≤ 8 ∧ 8 - i ≤ g ∧ s160 = .int .i64 i ∧ cur.length = 8 ∧ cur.take i = (addS P q).l.take i ∧ cur.drop i = P.l.drop i ∧
            wr.heap[G]? = some (.cells (cur.map uc32).toArray 158 (0, 0)) ∧ wr.heap[V]? = some (.cells q.cs 158 (0, 0)) ∧ wr.heap[G + 1 + 1]? = some (.cells (a8 0 0 0 0 0 0 0 0) 158 (0, 0)) ∧ Ext w wr)
          case atStart => exact ⟨0, P.l, Nat.zero_le _, by omega, rfl, rfl, rfl, rfl, hbg, hgv, hb2, xr⟩
          case round =>
            obtain ⟨i, cur, hi, hg, rfl, hcl, htk, hdr, hgc, hgv, hb2, xr⟩ := hrel
            by_cases hlt : i < 8
            · --DEV<
              have k1 := cell_uc hgc (i := i) (by omega)
              rw [getD_drop hdr] at k1
              have k2 := cell_uc (ls := q.l) (i := i) hgv hlt
              have k3 := block_free hgc i
              have hsum := addS_get P q i hlt
              generalize P.l.getD i 0 = x at *
              generalize q.l.getD i 0 = y at *
              have HS := Lib.hid hsum
              have HT := Lib.hid htk
              have HD := Lib.hid hdr
              clear hsum htk hdr
              go_wp2_with fail
              go_region
              all_goals go_wp2_with fail
              go_roundg (8 - (i + 1))
              case measure => omega
              case rel =>
                have hg0 := block_setCell hgc (i := i) (uc32 ((x + y) % 4294967296))
                rw [map_set] at hg0
                have e := xr.size
                refine ⟨i + 1, cur.set i ((x + y) % 4294967296), by omega, by omega, by go_num, by simp [hcl], ?_, ?_, hg0, set_other hgv (by omega), set_other hb2 (by omega), (xr.setCell (p := ⟨_, _, none⟩) (by simp only; omega) _).drew⟩
                · rw [List.take_add_one, List.getElem?_set_self (by omega), List.take_set_of_le (Nat.le_refl i), HT.out, List.take_add_one, ← HS.out, List.getD_eq_getElem?_getD, List.getElem?_eq_getElem (show i < (addS P q).l.length from hlt)]
                  rfl
                · rw [List.drop_set_of_lt (by omega), ← List.drop_drop, HD.out, List.drop_drop]
            --DEV>
            · have : i = 8 := by omega
              subst this
              rw [List.take_of_length_le (by omega), List.take_of_length_le (show (addS P q).l.length ≤ 8 from Nat.le_refl _)] at htk
              subst htk
              have hres : addS P q = BB := by rw [← HBB.out]; unfold blockS; rw [HQ.out, ← HWS.out]
              have hgc : wr.heap[G]? = some (.cells (addS P q).cs 158 (0, 0)) := hgc
              rw [hres] at hgc
              clear hres HBB
              obtain ⟨y0, y1, y2, y3, y4, y5, y6, y7⟩ := BB
              obtain ⟨d0, d1, d2, d3, d4, d5, d6, d7⟩ := c8 hgc
              obtain ⟨f0, f1, f2, f3, f4, f5, f6, f7⟩ := f8 hb2
              obtain ⟨z0, z1, z2, z3, z4, z5, z6, z7⟩ := c8 hb2
              have xg := up8_ext (g := G + 1 + 1) (y0 := .int .u32 y0) (y1 := .int .u32 y1) (y2 := .int .u32 y2) (y3 := .int .u32 y3) (y4 := .int .u32 y4) (y5 := .int .u32 y5) (y6 := .int .u32 y6) (y7 := .int .u32 y7) xr (by omega)
              have hup := up8 (y0 := y0) (y1 := y1) (y2 := y2) (y3 := y3) (y4 := y4) (y5 := y5) (y6 := y6) (y7 := y7) hb2
              clear hgc hgv hb2
              go_wp2
              obtain ⟨k0, k1, k2, k3, k4, k5, k6, k7⟩ := c8 hup
              clear z0 z1 z2 z3 z4 z5 z6 z7 d0 d1 d2 d3 d4 d5 d6 d7 f0 f1 f2 f3 f4 f5 f6 f7 hup
              refine bodyPost_ret (v := .agg (a8 y0 y1 y2 y3 y4 y5 y6 y7)) ?_ ?_ ?_
              rotate_left
              · rfl
              · refine ⟨?_, ?_⟩
                · rfl
                · exact xg
              simp [results, Tryz.results144, go_sem, k0, k1, k2, k3, k4, k5, k6, k7, a8]
end Go.Proofs.YtpadfabjihaapaaGreatDoor
