/-
  Arguments opened: arrays of bytes, slices of bytes.
-/
import Derived.Test.YtdgmahgidmjniaaBas2
import Derived.ChangeArms
import Derived.ChangeSlices
import Derived.OpenShut
namespace Go.Proofs.Ytdgmahgidmjniaa
open Go.RowKit Go.ChangeShapes Go.WideShapes

section
variable {H : Type} {enc : TypeId × Value → H} {P : Program} {W : World} {base : Nat} {sp : Nat → Bool} {held : Bool}

theorem bytes_of_each : ∀ (cs : List Value), (∀ i, i < cs.length → ∃ x : UInt8, cs[i]? = some (B x)) → ∃ l : List UInt8, cs = l.map B
  | [], _ => ⟨[], rfl⟩
  | c :: cs, h => by
    obtain ⟨x, hx⟩ := h 0 (by simp)
    obtain ⟨l, hl⟩ := bytes_of_each cs (fun i hi => by have := h (i + 1) (by simpa using hi); simpa using this)
    simp only [List.getElem?_cons_zero, Option.some.injEq] at hx
    exact ⟨x :: l, by rw [List.map_cons, ← hx, ← hl]⟩
theorem byte_of_wf {a : Int} (h : (Lit.int .u8 a).wf = true) : ∃ x : UInt8, Value.int .u8 a = B x := by
  have hmin : IntKind.u8.min = 0 := rfl
  have hmax : IntKind.u8.max = 255 := rfl
  simp only [Lit.wf, Bool.and_eq_true, decide_eq_true_eq] at h
  refine ⟨UInt8.ofNat a.toNat, ?_⟩
  simp only [B, UInt8.toNat_ofNat']
  congr 1
  omega
theorem mapM_some_each {α β : Type} {f : α → Option β} : ∀ {l : List α} {r : List β}, l.mapM f = some r → ∀ x ∈ l, ∃ y, f x = some y
  | [], _, _, x, hx => by cases hx
  | a :: l, r, h, x, hx => by
    rw [List.mapM_cons] at h
    simp only [bind, Option.bind_eq_some_iff] at h
    obtain ⟨y, hy, ys, hys, _⟩ := h
    rcases List.mem_cons.1 hx with rfl | hx
    · exact ⟨y, hy⟩
    · exact mapM_some_each hys x hx
/-- The cells that an array of bytes comes with. -/
theorem trod_bytes {t e : TypeId} {n fuel : Nat} {cs : List Value} {x : DataW H × List MemPlace} (ht : P.underlying t = some (.array n e)) (he : P.underlying e = some (.int .u8)) (hs : P.cellsOf e = 1) (hn : P.cellsOf t = n)
    (h : DataW.trod enc P W base sp held fuel t cs = some x) : ∃ l : List UInt8, cs = l.map B ∧ l.length = n := by
  cases fuel with
  | zero => simp [DataW.trod] at h
  | succ m =>
    rw [DataW.trod_step] at h
    unfold DataW.trodStep at h
    simp only [ht, hn, hs] at h
    split at h
    · rename_i hl
      simp only [Option.map_eq_some_iff] at h
      obtain ⟨ys, hy, _⟩ := h
      obtain ⟨l, rfl⟩ := bytes_of_each cs (fun i hi => by
        obtain ⟨y, hy⟩ := mapM_some_each hy i (by simp; omega)
        obtain ⟨a, ea, _, wa⟩ := DataW.trod_int he hy
        obtain ⟨b, hb⟩ := byte_of_wf wa
        refine ⟨b, ?_⟩
        rw [← hb]
        have : ((cs.drop (i * 1)).take 1)[0]? = some (Value.int .u8 a) := by rw [ea]; rfl
        rw [List.getElem?_take_of_lt (by omega), List.getElem?_drop] at this
        simpa using this)
      exact ⟨l, rfl, by simpa using hl⟩
    · cases h
theorem open_bytes_arr {t e : TypeId} {n : Nat} {v : Value} {d : DataW H} {ps : List MemPlace} {r : Reach} {b0 : Nat} (ht : P.underlying t = some (.array n e)) (he : P.underlying e = some (.int .u8)) (hs : P.cellsOf e = 1) (hn : P.cellsOf t = n)
    (hval : Value.okWide P W r b0 t v) (hd : DataW.Trod enc P W base sp held t v d ps) : ∃ l : List UInt8, v = .agg (bytesV l) ∧ l.length = n := by
  simp only [Value.okWide, ht] at hval
  obtain ⟨cs, rfl, _, _⟩ := hval
  obtain ⟨fuel, hf⟩ := hd
  obtain ⟨l, h1, h2⟩ := trod_bytes ht he hs hn hf
  refine ⟨l, ?_, h2⟩
  congr 1
  apply Array.toList_inj.1
  rw [bytesV_toList, ← h1]
  rfl

/-- The fields of a struct, each by its type and its place. -/
theorem trod_fields {t : TypeId} {fs : Array Field} {L : List (TypeId × Nat)} {fuel : Nat} {cs : List Value} {x : DataW H × List MemPlace} (ht : P.underlying t = some (.struct fs)) (hL : fs.toList.map (fun f => (f.type, f.offset)) = L)
    (h : DataW.trod enc P W base sp held fuel t cs = some x) : ∃ m, cs.length = P.cellsOf t ∧ ∀ (i : Nat) (ty : TypeId) (off : Nat), L[i]? = some (ty, off) → ∃ y, DataW.trod enc P W base sp held m ty ((cs.drop off).take (P.cellsOf ty)) = some y := by
  obtain ⟨xs, m, _, _, hl, hxs, hfs⟩ := DataW.trod_struct ht h
  refine ⟨m, hl, fun i ty off hi => ?_⟩
  rw [← hL, List.getElem?_map] at hi
  obtain ⟨f, hf, e⟩ := Option.map_eq_some_iff.1 hi
  simp only [Prod.mk.injEq] at e
  obtain ⟨rfl, rfl⟩ := e
  have hlt : i < fs.size := by
    have := (List.getElem?_eq_some_iff.1 hf).1
    simpa using this
  have := hfs i f (by simpa using hf)
  rw [this]
  exact ⟨_, List.getElem?_eq_getElem (by omega)⟩

/-- A slice of bytes that reads as l. -/
def BSlice (w : World) (v : Value) (l : List UInt8) : Prop :=
  (v = .slice none 0 0 ∧ l = []) ∨ ∃ b o cap, v = .slice (some ⟨b, o, none⟩) l.length cap ∧ l.length ≤ cap ∧ cap ≤ maxLen ∧ (0 < cap → b < w.heap.size) ∧ ∀ i, i < l.length → w.cell? ⟨b, o + i, none⟩ = some (.int .u8 (gd l i).toNat)
end
end Go.Proofs.Ytdgmahgidmjniaa
