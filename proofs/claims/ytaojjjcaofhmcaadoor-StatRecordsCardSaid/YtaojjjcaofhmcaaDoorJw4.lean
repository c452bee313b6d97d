/- The writer: buffers, texts; what was written. -/
import Derived.Test.YtaojjjcaofhmcaaDoorJw3
namespace Go.Proofs.YtaojjjcaofhmcaaDoor
open Go.RowKit

set_option maxRecDepth 100000 in
set_option maxHeartbeats 400000 in
theorem wBuffer_any (base g : Nat) (v : Value) (l k : List UInt8) (A : Option Addr) (m c B : Nat) (w : World) (h : Wr w base g v l) (hr : Reads w B 1 A m (bcells k)) (hB : B ≤ w.heap.size) (hsep : 0 < m → ∀ ad, A = some ad → ad.block ≠ g ∧ v.ownBlock ≠ some ad.block) (hbase : base ≤ w.heap.size) (hsz : l.length + k.length + 8 ≤ 140737488355328) :
    Calls Tryd.prog 46 #[.pointer (some ⟨g, 0, none⟩), .slice A m c] w fun e w' => e = .returned (.tuple #[]) ∧ ∃ v', Wrote base g v v' l (bBuf k) w w' := by
  have hm : k.length = m := by have := hr.1; rw [bcells_length] at this; omega
  subst hm
  have H0 := Lib.hid h
  have HR := Lib.hid hr
  have HS := Lib.hid hsep
  clear h hr hsep
  go_enter Tryd.func46, Tryd.ntmps46
  go_wp2_with (first
    | (go_at_call 87; refine (wCount_any base g v l _ _ H0.out hbase (by omega)).mono ?_; rintro e w1 ⟨rfl, v1, hp⟩; have HP := Lib.hid hp; clear hp)
    | (go_at_call 88
       have HR1 : Hid (Reads w1 B 1 A k.length (bcells k)) := ⟨HR.out.1, fun hn => (HR.out.kp' HP.out.2.1 hB (fun ad e hx => by
         rcases List.mem_cons.1 hx with hx | hx
         · exact (HS.out hn ad e).1 hx
         · exact (HS.out hn ad e).2 (by simpa using hx))).2 hn⟩
       refine (put_any base g v1 _ k A k.length c B _ HP.out.1 HR1.out (Nat.le_trans hbase HP.out.size) (by rw [List.length_append, bInt_len]; omega)).mono ?_; rintro e w2 ⟨rfl, v2, hq⟩; have HQ := Lib.hid (HP.out.cat (Below.refl _ _) hq); clear hq))
  go_end0
  exact ⟨rfl, v2, HQ.out⟩

/-- '[]byte(s)': a new row of the bytes of s -/
theorem conv_bytes (w : World) (s : ByteArray) : ∃ c w1, (convert 9 24 (.string s)).run Tryd.prog w = .ok (.slice (some ⟨w.heap.size, 0, none⟩) s.size c) w1 ∧ Reads w1 (w.heap.size + 1) 1 (some ⟨w.heap.size, 0, none⟩) s.size (bcells s.data.toList) ∧ Below w.heap.size w w1 ∧ w1.heap.size = w.heap.size + 1 := by
  have h := run_bytes_of_string (P := Tryd.prog) w 9 24 5 s Tryd.underlying9 Tryd.underlying24 Tryd.underlying5
  refine ⟨_, _, h, ⟨by rw [bcells_length, Nat.mul_one, bsize_eq], fun _ => ⟨_, rfl, Nat.lt_succ_self _, fun j u hu => ?_⟩⟩, (Below.refl _ _).drew.alloc (Nat.le_refl _) _, by simp⟩
  rw [Go.WideShapes.add_plain, Nat.zero_add]
  unfold World.cell?
  have hh := heap_alloc_new w.drew (.cells (bytesRow s (grownCap w s.size 0 5)) 5 ((bytesRow s (grownCap w s.size 0 5)).size, (bytesRow s (grownCap w s.size 0 5)).size + 1))
  have hd : w.drew.heap.size = w.heap.size := rfl
  rw [hd] at hh
  rw [hh]
  have hl : j < (bcells s.data.toList).length := (List.getElem?_eq_some_iff.1 hu).1
  rw [bcells_length] at hl
  have e : (bytesRow s (grownCap w s.size 0 5))[j]? = (bcells s.data.toList)[j]? := by
    unfold bytesRow
    rw [Array.getElem?_append_left (by simpa using hl)]
    simp [bcells]
  simpa [e] using hu

set_option maxRecDepth 100000 in
set_option maxHeartbeats 400000 in
theorem wText_any (base g : Nat) (v : Value) (l : List UInt8) (s : ByteArray) (w : World) (h : Wr w base g v l) (hbase : base ≤ w.heap.size) (hsz : l.length + s.size + 8 ≤ 140737488355328) :
    Calls Tryd.prog 45 #[.pointer (some ⟨g, 0, none⟩), .string s] w fun e w' => e = .returned (.tuple #[]) ∧ ∃ v', Wrote base g v v' l (bBuf s.data.toList) w w' := by
  obtain ⟨c, w1, hrun, hr, hb, hs⟩ := conv_bytes w s
  have H0 := Lib.hid h
  have HR := Lib.hid hr
  have HS : Hid (0 < s.size → ∀ ad, some (⟨w.heap.size, 0, none⟩ : Addr) = some ad → ad.block ≠ g ∧ v.ownBlock ≠ some ad.block) := fun _ ad e => by
    injection e with e
    subst e
    exact ⟨fun e => by have := h.lt; simp at e; omega, own_lt h.2 (Nat.le_refl _)⟩
  have hse : s.size = s.data.toList.length := bsize_eq s
  have HSE := Lib.hid hse
  have HH := Lib.hid hs
  have HB := Lib.hid hb
  clear h hr hse hs hb
  go_enter Tryd.func45, Tryd.ntmps45
  go_wp2_with (go_at_call 46; refine (wBuffer_any base g v l s.data.toList (some ⟨w.heap.size, 0, none⟩) s.size c (w.heap.size + 1) w1 (H0.out.later HB.out) HR.out (by rw [HH.out]; exact Nat.le_refl _) HS.out (by rw [HH.out]; omega) (by rw [← HSE.out]; omega)).mono ?_; rintro e w2 ⟨rfl, v2, hp⟩; have HP := Lib.hid (hp.from HB.out); clear hp)
  go_end0
  exact ⟨rfl, v2, HP.out⟩
end Go.Proofs.YtaojjjcaofhmcaaDoor
