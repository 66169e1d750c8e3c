/-
  Slices of bytes: as a string; appended to a row of the call's own.
-/
import Derived.Test.YtdgmahgidmjniaaOwn
import Derived.Laws.AppendOwnNone
import Derived.Laws.IdiomStrings
namespace Go.Proofs.Ytdgmahgidmjniaa
open Go.RowKit

section
variable {P : Program}
theorem byt_string (w : World) (src dst e : TypeId) (a : Option Addr) (cap : Nat) (l : List UInt8) (hs : P.underlying src = some (.slice e)) (he : P.underlying e = some (.int .u8)) (hd : P.underlying dst = some .string)
    (h0 : a = none → cap = 0) (hb : Byt w a l) : (convert src dst (.slice a l.length cap)).run P w = .ok (.string ⟨l.toArray⟩) w := by
  cases a with
  | none =>
    have hl : l = [] := by
      cases l with
      | nil => rfl
      | cons x r =>
        obtain ⟨b, o, e, _⟩ := hb (by simp)
        cases e
    subst hl
    rw [h0 rfl, run_convert_bytes_string w src dst e none _ 0 hs he hd]
    rfl
  | some ad =>
    refine run_convert_bytes_back w src dst e ad cap l hs he hd (fun j hj => ?_)
    obtain ⟨b, o, e, _, hc⟩ := hb (by omega)
    simp only [Option.some.injEq] at e
    subst e
    have := hc j hj
    rw [Go.WideShapes.add_plain]
    simpa [gd, hj] using this
theorem str_inj (l m : List UInt8) : ((⟨l.toArray⟩ : ByteArray) = ⟨m.toArray⟩) ↔ l = m := by simp
theorem wpList_append_bytes {w : World} {ops : Array Oper} {rest : List Oper} {o : Oper} {a : Act} {Q : Exit → Act → World → Prop} (hgd : o.guard = none) (s x : Operand) (t : TypeId)
    (ho : o.op = .call { callee := .builtin .append, args := #[s, x], argTypes := #[t, t] })
    (base : Nat) (e : TypeId) (i : TypeInfo) (ht : P.underlying t = some (.slice e)) (hi : P.info? e = some i) (hz : i.zero = some (.int .u8 0)) (hsize : i.size = 1) (hby : i.bytes = 1)
    (v : Value) (l : List UInt8) (hs : a.eval s = v) (hown : w.ownsRow base e 1 v l.length (l.map B))
    (ad : Option Addr) (m : List UInt8) (c : Nat) (hx : a.eval x = .slice ad m.length c) (h0 : ad = none → c = 0) (hb : Byt w ad m) (hlen : l.length + m.length ≤ 100000000000) (hbase : base ≤ w.heap.size)
    (h : ∀ v' w', w'.ownsRow base e 1 v' (l ++ m).length ((l ++ m).map B) → w.grownBy w' v.ownBlock → wpList P ops Q rest (a.put o.dst v') w') : wpList P ops Q (o :: rest) a w := by
  cases ad with
  | none =>
    have hl : m = [] := by
      cases m with
      | nil => rfl
      | cons x r =>
        obtain ⟨b, o, e, _⟩ := hb (by simp)
        cases e
    subst hl
    rw [h0 rfl] at hx
    refine wpList_append_own_none hgd s x t ho base e i 1 ht hi v l.length (l.map B) hs hown hx ?_
    refine h v w (by simpa using hown) ⟨rfl, rfl, rfl, Nat.le_refl _, fun _ _ _ => rfl⟩
  | some ad =>
    refine wpList_append_own w hgd s x t ho base e i (.int .u8 0) 1 1 ht hi hz hsize hby rfl (by decide) v l.length (l.map B) hs hown ad m.length c (m.map B) hx (by simp) (fun j u hj => ?_) (B_one m) (by unfold maxLen; omega) (by omega) hbase
      (fun v' w' h1 h2 _ => h v' w' (by rw [List.length_append, List.map_append]; exact h1) h2)
    have hj' : j < m.length := by
      have := (List.getElem?_eq_some_iff.1 hj).1
      simpa using this
    obtain ⟨b, o, e, _, hc⟩ := hb (by omega)
    simp only [Option.some.injEq] at e
    subst e
    have h1 := hc j hj'
    rw [List.getElem?_map, List.getElem?_eq_getElem hj', Option.map_some, Option.some.injEq] at hj
    subst hj
    rw [Go.WideShapes.add_plain]
    simpa [gd, hj', B] using h1
end
end Go.Proofs.Ytdgmahgidmjniaa
