/- Plain words for the walks of this claim: a slice that reads as a list of integers, a slice that the call itself owns, and append onto the latter. No program stands here. -/
import Derived.WalkKit
import Derived.Lib.Hide
import Derived.OpenShut
import Derived.Deep.Draws
namespace Go.Proofs.YtkpgkkifndlcpaaDoor
open Go.RowKit

/-- The slice value v reads, in w, as the integers xs of kind k; its cells lie in blocks from lo on, below hi. -/
def Rd (k : IntKind) (w : World) (lo hi : Nat) (v : Value) (xs : List Int) : Prop :=
  ∃ A c, v = .slice A xs.length c ∧ xs.length ≤ c ∧ c ≤ maxLen ∧
    (0 < xs.length → ∃ b off, A = some ⟨b, off, none⟩ ∧ lo ≤ b ∧ b < hi ∧ ∀ i u, xs[i]? = some u → w.cell? ⟨b, off + i, none⟩ = some (.int k u))

/-- The slice value v is owned by the call: it reads as xs, its block (of element type e) is new from lo on and not frozen; or it is empty. -/
def Own (k : IntKind) (e : TypeId) (w : World) (lo : Nat) (v : Value) (xs : List Int) : Prop :=
  w.ownsRow lo e 1 v xs.length (xs.map (.int k)) ∨ (xs = [] ∧ ∃ A, v = .slice A 0 0)

section
variable {k : IntKind} {e : TypeId} {w w' : World} {lo hi lo' hi' : Nat} {v : Value} {xs : List Int}

theorem Rd.form (h : Rd k w lo hi v xs) : ∃ A c, v = .slice A xs.length c ∧ xs.length ≤ c ∧ c ≤ maxLen := by
  obtain ⟨A, c, h1, h2, h3, _⟩ := h
  exact ⟨A, c, h1, h2, h3⟩

theorem Rd.keep (h : Rd k w lo hi v xs) (hk : ∀ b o, lo ≤ b → b < hi → w'.cell? ⟨b, o, none⟩ = w.cell? ⟨b, o, none⟩) : Rd k w' lo hi v xs := by
  obtain ⟨A, c, h1, h2, h3, h4⟩ := h
  refine ⟨A, c, h1, h2, h3, fun hp => ?_⟩
  obtain ⟨b, off, g1, g2, g3, g4⟩ := h4 hp
  exact ⟨b, off, g1, g2, g3, fun i u hu => (hk b _ g2 g3).trans (g4 i u hu)⟩

theorem Rd.more (h : Rd k w lo hi v xs) (hl : lo' ≤ lo) (hh : hi ≤ hi') : Rd k w lo' hi' v xs := by
  obtain ⟨A, c, h1, h2, h3, h4⟩ := h
  refine ⟨A, c, h1, h2, h3, fun hp => ?_⟩
  obtain ⟨b, off, g1, g2, g3, g4⟩ := h4 hp
  exact ⟨b, off, g1, by omega, by omega, g4⟩

theorem Rd.below (h : Rd k w lo hi v xs) {B : Nat} (hb : Below B w w') (hB : hi ≤ B) : Rd k w' lo hi v xs :=
  h.keep fun b o _ hlt => hb.cell (p := ⟨b, o, none⟩) (by show b < B; omega)

theorem Rd.grown (h : Rd k w lo hi v xs) {row : Option Nat} (hg : w.grownBy w' row) (hB : hi ≤ w.heap.size) (hr : ∀ g, row = some g → g < lo ∨ hi ≤ g) : Rd k w' lo hi v xs :=
  h.keep fun b o h1 h2 => World.cell?_of_block (a := ⟨b, o, none⟩) (hg.block b (by omega) (fun e => by have := hr _ e.symm; omega))

theorem Rd.nil_ (k : IntKind) (w : World) (lo hi : Nat) (A : Option Addr) (c : Nat) (hc : c ≤ maxLen) : Rd k w lo hi (.slice A 0 c) [] :=
  ⟨A, c, rfl, Nat.zero_le _, hc, fun h => by simp at h⟩

theorem Own.rd (h : Own k e w lo v xs) : Rd k w lo w.heap.size v xs := by
  rcases h with h | ⟨rfl, A, rfl⟩
  · rcases h.2 with ⟨rfl, hn⟩ | ⟨g, cap, cur, rfl, hb, hg, hnc, hcm, hcs, htake⟩
    · obtain rfl : xs = [] := List.eq_nil_of_length_eq_zero hn
      exact ⟨none, 0, rfl, Nat.le_refl _, by simp [maxLen], fun h => by simp at h⟩
    · refine ⟨_, cap, rfl, hnc, hcm, fun _ => ⟨g, 0, rfl, hb, (Array.getElem?_eq_some_iff.1 hg).1, fun i u hu => ?_⟩⟩
      have hi : i < xs.length := (List.getElem?_eq_some_iff.1 hu).1
      have hx := h.cellAt i (by omega)
      rw [Nat.zero_add, hx, List.getElem?_map, hu]
      rfl
  · exact ⟨A, 0, rfl, Nat.le_refl _, by simp [maxLen], fun h => by simp at h⟩

theorem Own.kept (h : Own k e w lo v xs) {row : Option Nat} (hg : w.grownBy w' row) (hr : ∀ g, row = some g → g < lo ∨ w.heap.size ≤ g) : Own k e w' lo v xs := by
  rcases h with h | h
  · left
    refine h.kept hg ?_
    rcases hv : v.ownBlock with _ | g
    · exact .inl rfl
    · right
      intro he
      have h1 := h.lt g hv
      have h2 := hr g he.symm
      omega
  · exact .inr h

theorem Own.below (h : Own k e w lo v xs) {B : Nat} (hb : Below B w w') (hB : w.heap.size ≤ B) : Own k e w' lo v xs :=
  h.kept (row := none) ⟨hb.os, hb.tape, hb.output, hb.size, fun i hi _ => hb.block i (by omega)⟩ (fun _ h => by cases h)

theorem Own.more (h : Own k e w lo v xs) (hl : lo' ≤ lo) : Own k e w lo' v xs := by
  rcases h with ⟨h1, h2 | ⟨g, cap, cur, hv, hb, r⟩⟩ | h
  · exact .inl ⟨h1, .inl h2⟩
  · exact .inl ⟨h1, .inr ⟨g, cap, cur, hv, by omega, r⟩⟩
  · exact .inr h

theorem Own.drew (h : Own k e w lo v xs) : Own k e w.drew lo v xs := h
theorem Own.drewN (h : Own k e w lo v xs) (n : Nat) : Own k e (w.drewN n) lo v xs := h
theorem Own.alloc (h : Own k e w lo v xs) (o : Obj) : Own k e (w.alloc o) lo v xs := h.kept (World.grownBy_alloc w o none) (fun _ h => by cases h)
theorem Rd.drew (h : Rd k w lo hi v xs) : Rd k w.drew lo hi v xs := h
theorem Rd.drewN (h : Rd k w lo hi v xs) (n : Nat) : Rd k (w.drewN n) lo hi v xs := h
theorem Rd.alloc (h : Rd k w lo hi v xs) (hB : hi ≤ w.heap.size) (o : Obj) : Rd k (w.alloc o) lo hi v xs := h.grown (World.grownBy_alloc w o none) hB (fun _ h => by cases h)

theorem Own.of_nil (k : IntKind) (e : TypeId) (w : World) (lo : Nat) : Own k e w lo (.slice none 0 0) [] := .inr ⟨rfl, none, rfl⟩
theorem Own.of_empty (k : IntKind) (e : TypeId) (w : World) (lo : Nat) (A : Option Addr) : Own k e w lo (.slice A 0 0) [] := .inr ⟨rfl, A, rfl⟩

theorem oneCells (k : IntKind) (xs : List Int) : ∀ u ∈ xs.map (Value.int k), u.oneCell' = true := by
  intro u hu
  obtain ⟨_, _, rfl⟩ := List.mem_map.1 hu
  rfl

end

/-- What an append leaves of the rest of memory: new blocks, and writes to one row of the call's own at most. -/
def Wrote (w w' : World) (lo : Nat) (v : Value) : Prop := ∃ row, w.grownBy w' row ∧ ∀ g, row = some g → lo ≤ g ∧ g < w.heap.size ∧ v.ownBlock = some g

theorem Wrote.below {w0 w w' : World} {lo B : Nat} {v : Value} (h : Wrote w w' lo v) (hb : Below B w0 w) (hB : B ≤ lo) (hs : B ≤ w.heap.size) : Below B w0 w' := by
  obtain ⟨row, hg, hr⟩ := h
  exact hb.grown hg hs (fun g hgr => by have := hr g hgr; omega)

theorem Wrote.size {w w' : World} {lo : Nat} {v : Value} (h : Wrote w w' lo v) : w.heap.size ≤ w'.heap.size := by
  obtain ⟨row, hg, _⟩ := h
  exact hg.size

theorem Wrote.rd {k : IntKind} {w w' : World} {lo l hi : Nat} {v x : Value} {xs : List Int} (h : Wrote w w' lo v) (hx : Rd k w l hi x xs) (h1 : hi ≤ lo) (h2 : hi ≤ w.heap.size) : Rd k w' l hi x xs := by
  obtain ⟨row, hg, hr⟩ := h
  exact hx.grown hg h2 (fun g hgr => by have := hr g hgr; omega)

/-- Each number fits its kind. -/
def Wf (k : IntKind) (xs : List Int) : Prop := ∀ n ∈ xs, (Lit.int k n).wf = true

/-- An int's bounds. -/
def In64 (n : Int) : Prop := -9223372036854775808 ≤ n ∧ n ≤ 9223372036854775807

theorem bd64 {n : Int} (h : (Lit.int .i64 n).wf = true) : In64 n := bounds_i64 h
theorem bd8 {n : Int} (h : (Lit.int .u8 n).wf = true) : 0 ≤ n ∧ n ≤ 255 := bounds_u8 h

theorem Rd.of_row {k : IntKind} {w : World} {x : Addr} {len cap : Nat} {zs : List Int} (hl : len ≤ cap) (hm : cap ≤ maxLen) (hz : zs.length = cap) (hc : ∀ i, i < zs.length → w.cell? (x.add i) = some (.int k (zs.getD i 0))) :
    Rd k w 0 w.heap.size (.slice (some x) len cap) (zs.take len) := by
  have hlen : (zs.take len).length = len := by rw [List.length_take]; omega
  refine ⟨some x, cap, by rw [hlen], by omega, hm, fun hp => ?_⟩
  have h0 := hc 0 (by omega)
  obtain ⟨b, off, spot⟩ := x
  have hspot : spot = none := by simpa [Addr.add] using World.cell?_spot h0
  subst hspot
  refine ⟨b, off, rfl, Nat.zero_le _, World.block_lt_of_cell? w _ (by rw [Addr.add_lit] at h0; exact h0), fun i u hu => ?_⟩
  have hi : i < len := by
    have := (List.getElem?_eq_some_iff.1 hu).1
    omega
  have h1 := hc i (by omega)
  rw [Addr.add_lit] at h1
  rw [h1, List.getElem?_take_of_lt hi] at *
  simp [List.getD, hu]

/-- A slice of slices: it reads, and so does each of its rows. -/
def Rds (k : IntKind) (w : World) (lo hi : Nat) (v : Value) (xss : List (List Int)) : Prop :=
  ∃ A c, v = .slice A xss.length c ∧ xss.length ≤ c ∧ c ≤ maxLen ∧
    (0 < xss.length → ∃ b off, A = some ⟨b, off, none⟩ ∧ lo ≤ b ∧ b < hi ∧ ∀ i xs, xss[i]? = some xs → ∃ u, w.cell? ⟨b, off + i, none⟩ = some u ∧ Rd k w lo hi u xs)

theorem Rds.nil_ (k : IntKind) (w : World) (lo hi : Nat) (A : Option Addr) (c : Nat) (hc : c ≤ maxLen) : Rds k w lo hi (.slice A 0 c) [] :=
  ⟨A, c, rfl, Nat.zero_le _, hc, fun h => by simp at h⟩

theorem Rds.of_rows {k : IntKind} {w : World} {x : Addr} {len cap : Nat} {RA : Nat → Option Addr} {RL RC : Nat → Nat} {RZ : Nat → List Int} (hl : len ≤ cap) (hm : cap ≤ maxLen)
    (h : ∀ r, r < cap → w.cell? (x.add r) = some (.slice (RA r) (RL r) (RC r)) ∧ RL r ≤ RC r ∧ RC r ≤ maxLen ∧ (RZ r).length = RC r ∧ (∀ n ∈ RZ r, (Lit.int k n).wf = true) ∧ (RA r = none → RC r = 0) ∧
        ∀ a', RA r = some a' → 0 ≤ a'.block ∧ ∀ c, c < RC r → w.cell? (a'.add c) = some (.int k ((RZ r).getD c 0))) :
    ∃ zss, Rds k w 0 w.heap.size (.slice (some x) len cap) zss ∧ ∀ zs ∈ zss, Wf k zs := by
  have hlen : ((List.range len).map fun r => (RZ r).take (RL r)).length = len := by simp
  refine ⟨(List.range len).map fun r => (RZ r).take (RL r), ⟨some x, cap, by rw [hlen], by omega, hm, fun hp => ?_⟩, ?_⟩
  · have h0 := (h 0 (by omega)).1
    obtain ⟨b, off, spot⟩ := x
    have hspot : spot = none := by simpa [Addr.add] using World.cell?_spot h0
    subst hspot
    refine ⟨b, off, rfl, Nat.zero_le _, World.block_lt_of_cell? w _ (by rw [Addr.add_lit] at h0; exact h0), fun i xs hu => ?_⟩
    have hi : i < len := by
      have := (List.getElem?_eq_some_iff.1 hu).1
      omega
    obtain ⟨e1, e2, e3, e4, e5, e6, e7⟩ := h i (by omega)
    rw [Addr.add_lit] at e1
    refine ⟨_, e1, ?_⟩
    have hxs : xs = (RZ i).take (RL i) := by
      simp [hi] at hu
      exact hu.symm
    subst hxs
    rcases hA : RA i with _ | a
    · have hz := e6 hA
      have hL : RL i = 0 := by omega
      rw [hL]
      simp only [List.take_zero]
      exact Rd.nil_ _ _ _ _ _ _ e3
    · exact Rd.of_row e2 e3 e4 (fun j hj => (e7 a hA).2 j (by omega))
  · intro zs hz n hn
    obtain ⟨r, hr, rfl⟩ := List.mem_map.1 hz
    have hr' := List.mem_range.1 hr
    exact (h r (by omega)).2.2.2.2.1 n (List.mem_of_mem_take hn)


section
variable {k : IntKind} {w w' : World} {lo hi lo' hi' : Nat} {v : Value} {xss : List (List Int)}
theorem Rds.form (h : Rds k w lo hi v xss) : ∃ A c, v = .slice A xss.length c ∧ xss.length ≤ c ∧ c ≤ maxLen := by
  obtain ⟨A, c, h1, h2, h3, _⟩ := h
  exact ⟨A, c, h1, h2, h3⟩
theorem Rds.keep (h : Rds k w lo hi v xss) (hk : ∀ b o, lo ≤ b → b < hi → w'.cell? ⟨b, o, none⟩ = w.cell? ⟨b, o, none⟩) : Rds k w' lo hi v xss := by
  obtain ⟨A, c, h1, h2, h3, h4⟩ := h
  refine ⟨A, c, h1, h2, h3, fun hp => ?_⟩
  obtain ⟨b, off, g1, g2, g3, g4⟩ := h4 hp
  refine ⟨b, off, g1, g2, g3, fun i u hu => ?_⟩
  obtain ⟨x, e1, e2⟩ := g4 i u hu
  exact ⟨x, (hk b _ g2 g3).trans e1, e2.keep hk⟩
theorem Rds.more (h : Rds k w lo hi v xss) (hl : lo' ≤ lo) (hh : hi ≤ hi') : Rds k w lo' hi' v xss := by
  obtain ⟨A, c, h1, h2, h3, h4⟩ := h
  refine ⟨A, c, h1, h2, h3, fun hp => ?_⟩
  obtain ⟨b, off, g1, g2, g3, g4⟩ := h4 hp
  refine ⟨b, off, g1, by omega, by omega, fun i u hu => ?_⟩
  obtain ⟨x, e1, e2⟩ := g4 i u hu
  exact ⟨x, e1, e2.more hl hh⟩
theorem Rds.below (h : Rds k w lo hi v xss) {B : Nat} (hb : Below B w w') (hB : hi ≤ B) : Rds k w' lo hi v xss :=
  h.keep fun b o _ hlt => hb.cell (p := ⟨b, o, none⟩) (by show b < B; omega)
theorem Rds.grown (h : Rds k w lo hi v xss) {row : Option Nat} (hg : w.grownBy w' row) (hB : hi ≤ w.heap.size) (hr : ∀ g, row = some g → g < lo ∨ hi ≤ g) : Rds k w' lo hi v xss :=
  h.keep fun b o h1 h2 => World.cell?_of_block (a := ⟨b, o, none⟩) (hg.block b (by omega) (fun e => by have := hr _ e.symm; omega))
theorem Rds.drewN (h : Rds k w lo hi v xss) (n : Nat) : Rds k (w.drewN n) lo hi v xss := h
theorem Rds.alloc (h : Rds k w lo hi v xss) (hB : hi ≤ w.heap.size) (o : Obj) : Rds k (w.alloc o) lo hi v xss := h.grown (World.grownBy_alloc w o none) hB (fun _ h => by cases h)
theorem Rds.at_ (h : Rds k w lo hi v xss) {i : Nat} (hi' : i < xss.length) : ∃ b off c u, v = .slice (some ⟨b, off, none⟩) xss.length c ∧ lo ≤ b ∧ b < hi ∧ w.cell? ⟨b, off + i, none⟩ = some u ∧ Rd k w lo hi u xss[i] := by
  obtain ⟨A, c, h1, h2, h3, h4⟩ := h
  obtain ⟨b, off, g1, g2, g3, g4⟩ := h4 (by omega)
  obtain ⟨x, e1, e2⟩ := g4 i _ (List.getElem?_eq_getElem hi')
  subst g1
  exact ⟨b, off, c, x, h1, g2, g3, e1, e2⟩
end

/-- A block of one number that was just laid. -/
theorem Own.lit1 (k : IntKind) (e : TypeId) (w : World) (lo : Nat) (x : Int) (h : lo ≤ w.heap.size) : Own k e (w.alloc (.cells #[.int k x] e)) lo (.slice (some ⟨w.heap.size, 0, none⟩) 1 1) [x] :=
  .inl (World.ownsRow_lit w #[.int k x] 1 h (by simp [maxLen]) (by simp))
/-- A block of no number that was just laid. -/
theorem Own.lit0 (k : IntKind) (e : TypeId) (w : World) (lo : Nat) (A : Option Addr) : Own k e w lo (.slice A 0 0) [] := .inr ⟨rfl, A, rfl⟩

/-- What a mark leaves: writes to rows of the blocks from lo on, below hi. -/
structure Touch (w w' : World) (lo hi : Nat) : Prop where
  os : w'.os = w.os
  tape : w'.tape = w.tape
  output : w'.output = w.output
  size : w.heap.size ≤ w'.heap.size
  block : ∀ k, k < w.heap.size → (k < lo ∨ hi ≤ k) → w'.heap[k]? = w.heap[k]?
theorem Touch.refl (w : World) (lo hi : Nat) : Touch w w lo hi := ⟨rfl, rfl, rfl, Nat.le_refl _, fun _ _ _ => rfl⟩
theorem Touch.trans {a b c : World} {lo hi : Nat} (h : Touch a b lo hi) (g : Touch b c lo hi) : Touch a c lo hi :=
  ⟨g.os.trans h.os, g.tape.trans h.tape, g.output.trans h.output, Nat.le_trans h.size g.size, fun k h1 h2 => (g.block k (by have := h.size; omega) h2).trans (h.block k h1 h2)⟩
theorem Touch.more {w w' : World} {lo hi lo' hi' : Nat} (h : Touch w w' lo hi) (h1 : lo' ≤ lo) (h2 : hi ≤ hi') : Touch w w' lo' hi' :=
  ⟨h.os, h.tape, h.output, h.size, fun k a b => h.block k a (by omega)⟩
theorem Touch.below {w0 w w' : World} {lo hi B : Nat} (h : Touch w w' lo hi) (hb : Below B w0 w) (hB : B ≤ lo ∧ B ≤ w.heap.size) : Below B w0 w' :=
  hb.trans ⟨h.os, h.tape, h.output, h.size, fun k hk => h.block k (by omega) (by omega)⟩
theorem Touch.grown {w w' : World} {lo hi : Nat} (h : Touch w w' lo hi) {l u : Nat} (hu : u ≤ w.heap.size) (hd : u ≤ lo ∨ hi ≤ l) (b o : Nat) (h1 : l ≤ b) (h2 : b < u) : w'.cell? ⟨b, o, none⟩ = w.cell? ⟨b, o, none⟩ :=
  World.cell?_of_block (a := ⟨b, o, none⟩) (h.block b (by omega) (by omega))
theorem Rd.touch {k : IntKind} {w w' : World} {lo hi l u : Nat} {v : Value} {xs : List Int} (h : Rd k w l u v xs) (t : Touch w w' lo hi) (hd : u ≤ w.heap.size ∧ (u ≤ lo ∨ hi ≤ l)) : Rd k w' l u v xs :=
  h.keep (t.grown hd.1 hd.2)
theorem Rds.touch {k : IntKind} {w w' : World} {lo hi l u : Nat} {v : Value} {xss : List (List Int)} (h : Rds k w l u v xss) (t : Touch w w' lo hi) (hd : u ≤ w.heap.size ∧ (u ≤ lo ∨ hi ≤ l)) : Rds k w' l u v xss :=
  h.keep (t.grown hd.1 hd.2)
theorem Own.touch {k : IntKind} {e : TypeId} {w w' : World} {lo hi l : Nat} {v : Value} {xs : List Int} (h : Own k e w l v xs) (t : Touch w w' lo hi) (hd : hi ≤ l) : Own k e w' l v xs := by
  rcases h with ⟨h1, h2 | ⟨g, cap, cur, rfl, hb, hg, r⟩⟩ | h
  · exact .inl ⟨h1, .inl h2⟩
  · exact .inl ⟨h1, .inr ⟨g, cap, cur, rfl, hb, by rw [t.block g (Array.getElem?_eq_some_iff.1 hg).1 (by omega)]; exact hg, r⟩⟩
  · exact .inr h

section
variable {P : Program} (w : World)

/-- append onto a slice of the call's own, from any slice that reads. -/
theorem run_append_Own (lo : Nat) (t ty e : TypeId) (i : TypeInfo) (z : Value) (k : IntKind) (bytes : Nat) (ht : P.underlying t = some (.slice e)) (hi : P.info? e = some i) (hz : i.zero = some z)
    (hsize : i.size = 1) (hby : i.bytes = bytes) (hzs : z.cells.size = 1)
    (v : Value) (xs : List Int) (hO : Own k e w lo v xs) (x : Value) (l h : Nat) (ys : List Int) (hx : Rd k w l h x ys)
    (h63 : xs.length + ys.length ≤ maxLen) (hbytes : (xs.length + ys.length) * bytes ≤ 140737488355328) (hbase : lo ≤ w.heap.size) :
    ∃ v' w', (Builtin.append_ #[t, t] ty #[v, x]).run P w = .ok v' w' ∧ Own k e w' lo v' (xs ++ ys) ∧ Wrote w w' lo v := by
  obtain ⟨B, c, rfl, _, _, hcell⟩ := hx
  have hlen : (ys.map (Value.int k)).length = ys.length * 1 := by simp
  rcases hO with hO | ⟨rfl, A, rfl⟩
  · have fin : ∀ v' w', w'.ownsRow lo e 1 v' (xs.length + ys.length) (xs.map (.int k) ++ ys.map (.int k)) → w.grownBy w' v.ownBlock → Own k e w' lo v' (xs ++ ys) ∧ Wrote w w' lo v := by
      intro v' w' h1 h2
      refine ⟨.inl (by simpa using h1), v.ownBlock, h2, fun g hg => ?_⟩
      have := hO.lt g hg
      exact ⟨this.1, this.2, hg⟩
    rcases Nat.eq_zero_or_pos ys.length with h0 | hp
    · obtain rfl : ys = [] := List.eq_nil_of_length_eq_zero h0
      refine ⟨v, w, ?_, .inl (by simpa using hO), none, World.grownBy.refl w none, fun g hg => by cases hg⟩
      rcases hO.2 with ⟨rfl, _⟩ | ⟨g, cap, cur, rfl, _, _, hnc, _⟩
      · cases B <;> simp [Builtin.append_, run_underlying ht, sizeOf, typeInfo, hi, Builtin.lenOf, Builtin.firstCells, loadCells, loadCellsFrom]
      · cases B <;> simp [Builtin.append_, run_underlying ht, sizeOf, typeInfo, hi, Builtin.lenOf, Builtin.firstCells, hnc, storeCells, loadCells, loadCellsFrom]
    · obtain ⟨b, off, rfl, _, _, hc⟩ := hcell hp
      obtain ⟨v', w', hr, r1, r2, _⟩ := run_append_own (P := P) w lo t ty e i z 1 bytes ht hi hz hsize hby hzs (by omega) v xs.length (xs.map (.int k)) hO ⟨b, off, none⟩ ys.length c (ys.map (.int k)) hlen
        (fun j u hu => by
          rw [List.getElem?_map] at hu
          rcases hy : ys[j]? with _ | y
          · rw [hy] at hu; cases hu
          · rw [hy] at hu
            simp only [Option.map_some, Option.some.injEq] at hu
            subst hu
            rw [Addr.add_lit]
            exact hc j y hy) (oneCells k ys) h63 hbytes hbase
      exact ⟨v', w', hr, fin v' w' r1 r2⟩
  · rcases Nat.eq_zero_or_pos ys.length with h0 | hp
    · obtain rfl : ys = [] := List.eq_nil_of_length_eq_zero h0
      refine ⟨_, w, ?_, .inr ⟨rfl, A, rfl⟩, none, World.grownBy.refl w none, fun g hg => by cases hg⟩
      cases A <;> cases B <;> simp [Builtin.append_, run_underlying ht, sizeOf, typeInfo, hi, Builtin.lenOf, Builtin.firstCells, storeCells, loadCells, loadCellsFrom]
    · obtain ⟨b, off, rfl, _, _, hc⟩ := hcell hp
      have hnews : ∀ j u, (ys.map (Value.int k))[j]? = some u → w.cell? ((⟨b, off, none⟩ : Addr).add j) = some u := by
        intro j u hu
        rw [List.getElem?_map] at hu
        rcases hy : ys[j]? with _ | y
        · rw [hy] at hu; cases hu
        · rw [hy] at hu
          simp only [Option.map_some, Option.some.injEq] at hu
          subst hu
          rw [Addr.add_lit]
          exact hc j y hy
      have own : ∀ v' w', w'.ownsRow w.heap.size e 1 v' (0 + ys.length) ([] ++ ys.map (.int k)) → Own k e w' lo v' ([] ++ ys) := by
        intro v' w' h1
        exact Own.more (lo := w.heap.size) (.inl (by simpa using h1)) hbase
      rcases A with _ | a
      · obtain ⟨v', w', hr, r1, r2, _⟩ := run_append_own (P := P) w w.heap.size t ty e i z 1 bytes ht hi hz hsize hby hzs (by omega) (.slice none 0 0) 0 [] (World.ownsRow_nil w _ e 1) ⟨b, off, none⟩ ys.length c (ys.map (.int k)) hlen hnews (oneCells k ys) (by simpa using h63) (by simpa using hbytes) (Nat.le_refl _)
        exact ⟨v', w', hr, own v' w' r1, none, r2, fun g hg => by cases hg⟩
      · obtain ⟨v', w', hr, r1, r2⟩ := run_append_arg_grows (P := P) w t ty e i z 1 bytes ht hi hz hsize hby hzs (by omega) a 0 0 [] (by simp) (fun j u hu => by simp at hu) ⟨b, off, none⟩ ys.length c (ys.map (.int k)) hlen hnews (by omega) (by simpa using h63) (by simpa using hbytes)
        exact ⟨v', w', hr, own v' w' r1, none, r2, fun g hg => by cases hg⟩

/-- The same for the walk. -/
theorem wpList_append_Own {ops : Array Oper} {rest : List Oper} {o : Oper} {a : Act} {Q : Exit → Act → World → Prop} (hgd : o.guard = none) (s x : Operand) (t : TypeId)
    (ho : o.op = .call { callee := .builtin .append, args := #[s, x], argTypes := #[t, t] })
    (lo : Nat) (e : TypeId) (i : TypeInfo) (z : Value) (k : IntKind) (bytes : Nat) (ht : P.underlying t = some (.slice e)) (hi : P.info? e = some i) (hz : i.zero = some z)
    (hsize : i.size = 1) (hby : i.bytes = bytes) (hzs : z.cells.size = 1)
    (v : Value) (xs : List Int) (hs : a.eval s = v) (hO : Own k e w lo v xs) (xv : Value) (l h : Nat) (ys : List Int) (hxv : a.eval x = xv) (hx : Rd k w l h xv ys)
    (h63 : xs.length + ys.length ≤ maxLen) (hbytes : (xs.length + ys.length) * bytes ≤ 140737488355328) (hbase : lo ≤ w.heap.size)
    (hK : ∀ v' w', Own k e w' lo v' (xs ++ ys) → Wrote w w' lo v → wpList P ops Q rest (a.put o.dst v') w') : wpList P ops Q (o :: rest) a w := by
  refine wpList_plain hgd fun K hK' => ?_
  obtain ⟨v', w', hr, h2, h3⟩ := run_append_Own (P := P) w lo t o.type e i z k bytes ht hi hz hsize hby hzs v xs hO xv l h ys hx h63 hbytes hbase
  unfold Oper.wp execOp
  simp only [ho, resolve, invoke, builtin, Sem.run_bind, Sem.run_pure, Result.andThen_ok, List.map_toArray, List.map_cons, List.map_nil, hs, hxv, hr]
  exact hK' _ _ (hK v' w' h2 h3)
end


theorem below_drewN (B : Nat) (w : World) (n : Nat) : Below B w (w.drewN n) := ⟨rfl, rfl, rfl, Nat.le_refl _, fun _ _ => rfl⟩

/-- A call that only reads, told as one that leaves what was there as it was. -/
theorem ofQuiet {P : Program} {f : FuncId} {args : Array Value} {w : World} {v : Value} (h : Calls P f args w fun e w' => e = .returned v ∧ ∃ n, w' = w.drewN n) :
    Calls P f args w fun e w' => e = .returned v ∧ Below w.heap.size w w' :=
  h.mono fun _ _ ⟨h1, n, h2⟩ => ⟨h1, h2 ▸ below_drewN _ w n⟩
theorem ofStill {P : Program} {f : FuncId} {args : Array Value} {w : World} {v : Value} (h : Calls P f args w fun e w' => e = .returned v ∧ w = w') :
    Calls P f args w fun e w' => e = .returned v ∧ Below w.heap.size w w' :=
  h.mono fun _ _ ⟨h1, h2⟩ => ⟨h1, h2 ▸ Below.refl _ _⟩

#print axioms run_append_Own
#print axioms wpList_append_Own
end Go.Proofs.YtkpgkkifndlcpaaDoor
