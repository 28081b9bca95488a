/- Blocks that are known whole; rows of bytes that the call makes, and strings out of them. -/
import Derived.Test.YtjmenlffhoodeacK
import Derived.Laws.BytesArg
import Derived.Laws.MakeOwn
import Derived.Laws.Rows
namespace Go.Proofs.Ytjmenlffhoodeac
open Go.RowKit

/-- Block g is just the cells cs, of element type t, none of them frozen. -/
def Blk (w : World) (g : Nat) (t : TypeId) (cs : Array Value) : Prop := w.heap[g]? = some (.cells cs t (0, 0))
section
variable {w w' : World} {g : Nat} {t : TypeId} {cs : Array Value}
theorem Blk.lt (h : Blk w g t cs) : g < w.heap.size := by
  rcases Nat.lt_or_ge g w.heap.size with hlt | hge
  · exact hlt
  · unfold Blk at h; rw [Array.getElem?_eq_none hge] at h; cases h
theorem Blk.cell (h : Blk w g t cs) (i : Nat) : w.cell? ⟨g, i, none⟩ = cs[i]? := cell_of_row w g i cs t (0, 0) h
theorem Blk.frozen (h : Blk w g t cs) (i : Nat) : w.frozen? ⟨g, i, none⟩ = false := by
  unfold Blk at h
  simp [World.frozen?, h]
theorem Blk.new (w : World) (t : TypeId) (cs : Array Value) : Blk (w.alloc (.cells cs t)) w.heap.size t cs := heap_alloc_new w _
theorem Blk.drewN (h : Blk w g t cs) (n : Nat) : Blk (w.drewN n) g t cs := h
theorem Blk.drew (h : Blk w g t cs) : Blk w.drew g t cs := h
theorem Blk.alloc (h : Blk w g t cs) (o : Obj) : Blk (w.alloc o) g t cs := (Below.heap_alloc w o g h.lt).trans h
theorem Blk.set_ (h : Blk w g t cs) (i : Nat) (u : Value) : Blk (w.setCell ⟨g, i, none⟩ u) g t (cs.setIfInBounds i u) := by
  unfold Blk at h ⊢
  simp [World.setCell, Array.getElem?_modify, h]
theorem Blk.far (h : Blk w g t cs) {p : Addr} (hp : g ≠ p.block) (u : Value) : Blk (w.setCell p u) g t cs := (Below.heap_setCell w p u g hp).trans h
theorem Blk.below {B : Nat} (h : Blk w g t cs) (hb : Below B w w') (hg : g < B) : Blk w' g t cs := (hb.block g hg).trans h
end

/-- A new row of n bytes, all 0. -/
def zrow (n : Nat) : Array Value := madeCells #[.int .u8 0] n
theorem zrow_size (n : Nat) : (zrow n).size = n := size_madeCells _ _
theorem zrow_at (n j : Nat) (h : j < n) : (zrow n)[j]? = some (.int .u8 0) := by
  unfold zrow
  rw [← Array.getElem?_toList, toList_madeCells_one, List.getElem?_replicate, if_pos h]

/-- A string whose bytes a function tells. -/
def tab (f : Nat → Int) (n : Nat) : ByteArray := strOfNums ((List.range n).map f)
theorem tab_size (f : Nat → Int) (n : Nat) : (tab f n).size = n := by simp [tab, strOfNums_size]
theorem byt_tab (f : Nat → Int) (n i : Nat) (h : i < n) (h0 : 0 ≤ f i) (h1 : f i ≤ 255) : byt (tab f n) i = f i := by
  unfold byt tab
  have e : (strOfNums ((List.range n).map f)).data.getD i 0 = UInt8.ofNat (f i).toNat := by
    rw [Array.getD_eq_getD_getElem?, ← Array.getElem?_toList, strOfNums_data]
    simp [h]
  rw [e, UInt8.toNat_ofNat']
  omega
theorem bytes_eq (a b : ByteArray) (hz : a.size = b.size) (h : ∀ i, i < a.size → byt a i = byt b i) : a = b := by
  apply ByteArray.ext
  apply Array.ext
  · exact hz
  · intro i h1 h2
    have := h i h1
    unfold byt at this
    simp only [Array.getD_eq_getD_getElem?, Array.getElem?_eq_getElem h1, Array.getElem?_eq_getElem h2, Option.getD_some] at this
    exact UInt8.toNat_inj.1 (by omega)
theorem tab_eq (f : Nat → Int) (s : ByteArray) (h : ∀ i, i < s.size → f i = byt s i) : tab f s.size = s := by
  refine bytes_eq _ _ (tab_size _ _) fun i hi => ?_
  rw [tab_size] at hi
  have hb := byt_bd s i
  have := h i hi
  rw [byt_tab f _ i hi (by omega) (by omega), this]
theorem tab_congr (f g : Nat → Int) (n : Nat) (h : ∀ i, i < n → f i = g i) : tab f n = tab g n := by
  unfold tab
  congr 1
  exact List.map_congr_left fun i hi => h i (by simpa using hi)
/-- 'string(b)' of a row whose cells are known. -/
theorem conv_string {P : Program} (w : World) (src e dst : TypeId) (g n cap : Nat) (f : Nat → Int) (hs : P.underlying src = some (.slice e)) (he : P.underlying e = some (.int .u8)) (hd : P.underlying dst = some .string)
    (hc : ∀ j, j < n → w.cell? ⟨g, j, none⟩ = some (.int .u8 (f j))) :
    (convert src dst (.slice (some ⟨g, 0, none⟩) n cap)).run P w = .ok (.string (tab f n)) w := by
  refine run_convert_bytes_arg w src e hs he g 0 n cap _ (by simp) (fun i hi => ?_) dst hd
  rw [Nat.zero_add, hc i hi]
  simp [hi]
end Go.Proofs.Ytjmenlffhoodeac
