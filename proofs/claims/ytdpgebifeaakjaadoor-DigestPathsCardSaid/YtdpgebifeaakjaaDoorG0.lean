/- What an append leaves of the blocks that were there: the first cells. -/
import Derived.Test.YtdpgebifeaakjaaDoorG1
namespace Go.Proofs.YtdpgebifeaakjaaDoor
set_option linter.unusedSimpArgs false
set_option linter.unusedVariables false
open Go.RowKit

/-- The blocks of type t keep their first s cells. -/
def Heads (t : TypeId) (s : Nat) (w w' : World) : Prop := ∀ (g : Nat) (C : Array Value), Blk w g C t → ∃ C', Blk w' g C' t ∧ ∀ j, j < s → C'[j]? = C[j]?
theorem Heads.refl (t : TypeId) (s : Nat) (w : World) : Heads t s w w := fun g C h => ⟨C, h, fun _ _ => rfl⟩
theorem Heads.trans {t : TypeId} {s r : Nat} {x y z : World} (h : Heads t s x y) (k : Heads t r y z) (hs : s ≤ r) : Heads t s x z := fun g C hg => by
  obtain ⟨C1, h1, e1⟩ := h g C hg
  obtain ⟨C2, h2, e2⟩ := k g C1 h1
  exact ⟨C2, h2, fun j hj => (e2 j (by omega)).trans (e1 j hj)⟩
/-- Of the blocks that were there ahead of it all, none of type t is turned. -/
theorem Heads.of_same {t : TypeId} {s : Nat} {x y z : World} (h : Heads t s x y) (k : ∀ (g : Nat) (C : Array Value), g < x.heap.size → Blk y g C t → z.heap[g]? = y.heap[g]?) : Heads t s x z := fun g C hg => by
  obtain ⟨C1, h1, e1⟩ := h g C hg
  exact ⟨C1, (k g C1 hg.lt h1).trans h1, e1⟩
theorem Heads.drew {t : TypeId} {s : Nat} {x y : World} (h : Heads t s x y) : Heads t s x y.drew := h
theorem Heads.alloc {t : TypeId} {s : Nat} {x y : World} (h : Heads t s x y) (o : Obj) : Heads t s x (y.alloc o) := h.of_same fun g C _ hb => Below.heap_alloc _ _ _ hb.lt
theorem Heads.below {t : TypeId} {s : Nat} {x y z : World} (h : Heads t s x y) (hb : Below y.heap.size y z) : Heads t s x z := h.of_same fun g C _ hg => hb.block g hg.lt
theorem Blk.ty {w : World} {g : Nat} {C D : Array Value} {t u : TypeId} (h : Blk w g C t) (k : Blk w g D u) : t = u := by
  have e := Option.some.inj (Eq.trans (Eq.symm h) k)
  injection e
theorem Heads.mods {t : TypeId} {s b : Nat} {x y z : World} (h : Heads t s x y) (hm : Mods b y z) {C : Array Value} {u : TypeId} (hb : Blk y b C u) (hu : u ≠ t) : Heads t s x z :=
  h.of_same fun g D _ hg => hm.block g hg.lt (by rintro rfl; exact hu (hb.ty hg))
theorem Heads.set {t : TypeId} {s : Nat} {x y : World} (h : Heads t s x y) {p : Addr} (v : Value) {C : Array Value} {u : TypeId} (hb : Blk y p.block C u) (hu : u ≠ t) : Heads t s x (y.setCell p v) :=
  h.of_same fun g D _ hg => Below.heap_setCell _ _ _ _ (by rintro rfl; exact hu (hb.ty hg))
theorem Heads.new {t : TypeId} {s : Nat} {x y : World} (h : Heads t s x y) {p : Addr} (v : Value) (hp : x.heap.size ≤ p.block) : Heads t s x (y.setCell p v) :=
  h.of_same fun g D hl hg => Below.heap_setCell _ _ _ _ (by omega)
theorem Heads.cell {t : TypeId} {s : Nat} {w w' : World} (h : Heads t s w w') {g j : Nat} {C : Array Value} (hb : Blk w g C t) (hj : j < s) : w'.cell? ⟨g, j, none⟩ = w.cell? ⟨g, j, none⟩ := by
  obtain ⟨C', h1, e⟩ := h g C hb
  rw [h1.cell, hb.cell, e j hj]
theorem heads_append {w w' : World} {v' : Value} (base : Nat) (t ty e : TypeId) (i : TypeInfo) (z : Value) (size bytes : Nat) (ht : Tryd.prog.underlying t = some (.slice e)) (hi : Tryd.prog.info? e = some i) (hz : i.zero = some z)
    (hsize : i.size = size) (hby : i.bytes = bytes)
    (v : Value) (n : Nat) (xs : List Value) (hown : w.ownsRow base e size v n xs)
    (a : Addr) (m c : Nat) (news : List Value) (hl : news.length = m * size) (hnews : ∀ j u, news[j]? = some u → w.cell? (a.add j) = some u) (h1 : ∀ u ∈ news, u.oneCell' = true)
    (h63 : n + m ≤ maxLen) (hbytes : (n + m) * bytes ≤ 140737488355328)
    (hg : w.grownBy w' v.ownBlock) (hr : (Builtin.append_ #[t, t] ty #[v, .slice (some a) m c]).run Tryd.prog w = .ok v' w') : Heads e (n * size) w w' := by
  subst hsize hby
  have hsmall : n + m ≤ 9223372036854775807 := by simp only [maxLen] at h63; omega
  rcases hown.2 with ⟨rfl, rfl⟩ | ⟨g, cap, cur, rfl, hbg, hgg, hnc, hcm, hcs, htake⟩
  · exact (Heads.refl _ _ _).of_same fun k C hk _ => hg.block k hk (fun h => by cases h)
  · by_cases hroom : n + m ≤ cap
    · have hfit : n * i.size + news.length ≤ cur.size := by rw [hl, hcs, ← Nat.add_mul]; exact Nat.mul_le_mul_right _ hroom
      rw [run_append_room (P := Tryd.prog) w t ty e i ht hi g n cap cur hgg a m c news hl hnews h1 hroom hfit] at hr
      injection hr with e1 e2
      subst e2
      intro k C hk
      by_cases hkg : k = g
      · subst hkg
        obtain rfl : cur = C := by
          have := Option.some.inj (Eq.trans (Eq.symm hgg) hk)
          injection this
        refine ⟨_, setRow_heap w k cur _ e _ hgg, fun j hj => ?_⟩
        rw [List.getElem?_toArray, List.append_assoc, List.getElem?_append_left (by rw [List.length_take, Array.length_toList]; omega), List.getElem?_take, if_pos hj, Array.getElem?_toList]
      · exact ⟨C, (setRow_other w g k _ hkg).trans hk, fun _ _ => rfl⟩
    · have holds : ∀ j u, xs[j]? = some u → w.cell? ((⟨g, 0, none⟩ : Addr).add j) = some u := hown.cells (g := g) rfl
      rw [run_append_grow (P := Tryd.prog) w t ty e i z ht hi hz ⟨g, 0, none⟩ n cap xs hown.1 holds a m c news hl hnews (by omega) (by omega) (growslice_fits (by omega) hbytes)] at hr
      injection hr with e1 e2
      subst e2
      exact (Heads.refl _ _ _).drew.alloc _
theorem wp_append_heads {w : World} {o : Oper} {a : Act} {K : Act → World → Prop} {Q : Exit → Act → World → Prop} (s x : Operand) (t : TypeId)
    (ho : o.op = .call { callee := .builtin .append, args := #[s, x], argTypes := #[t, t] })
    (base : Nat) (e : TypeId) (i : TypeInfo) (z : Value) (size bytes : Nat) (ht : Tryd.prog.underlying t = some (.slice e)) (hi : Tryd.prog.info? e = some i) (hz : i.zero = some z)
    (hsize : i.size = size) (hby : i.bytes = bytes) (hzs : z.cells.size = size) (hsz : 0 < size)
    (v : Value) (n : Nat) (xs : List Value) (hs : a.eval s = v) (hown : w.ownsRow base e size v n xs)
    (ad : Addr) (m c : Nat) (news : List Value) (hx : a.eval x = .slice (some ad) m c) (hl : news.length = m * size) (hnews : ∀ j u, news[j]? = some u → w.cell? (ad.add j) = some u) (h1 : ∀ u ∈ news, u.oneCell' = true)
    (h63 : n + m ≤ maxLen) (hbytes : (n + m) * bytes ≤ 140737488355328) (hbase : base ≤ w.heap.size)
    (h : ∀ v' w', w'.ownsRow base e size v' (n + m) (xs ++ news) → w.grownBy w' v.ownBlock → Heads e (n * size) w w' → K (a.put o.dst v') w') : o.wp Tryd.prog a w K Q := by
  obtain ⟨v', w', hr, h2, h3, h4⟩ := run_append_own (P := Tryd.prog) w base t o.type e i z size bytes ht hi hz hsize hby hzs hsz v n xs hown ad m c news hl hnews h1 h63 hbytes hbase
  have hh := heads_append base t o.type e i z size bytes ht hi hz hsize hby v n xs hown ad m c news hl hnews h1 h63 hbytes h3 hr
  unfold Oper.wp execOp
  simp only [ho, resolve, invoke, builtin, Sem.run_bind, Sem.run_pure, Result.andThen_ok, List.map_toArray, List.map_cons, List.map_nil, hs, hx, hr]
  exact h v' w' h2 h3 hh
end Go.Proofs.YtdpgebifeaakjaaDoor
