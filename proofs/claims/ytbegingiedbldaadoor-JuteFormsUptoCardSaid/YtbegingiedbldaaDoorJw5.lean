/- The writer: copies of what was written; lists of texts. -/
import Derived.Test.YtbegingiedbldaaDoorJw4
namespace Go.Proofs.YtbegingiedbldaaDoor
open Go.RowKit

set_option maxHeartbeats 400000 in
theorem clone_any (A : Option Addr) (n c B : Nat) (xs : List Value) (w : World) (hr : Reads w B 1 A n xs) (h1 : ∀ u ∈ xs, u.oneCell' = true) (hB : B ≤ w.heap.size) (hn : n ≤ 140737488355328) (hnil : A = none → n = 0 ∧ c = 0) :
    Calls Tryd.prog 56 #[.slice A n c] w fun e w' => ∃ A' c', e = .returned (.slice A' n c') ∧ w'.ownsRow w.heap.size 5 1 (.slice A' n c') n xs ∧ Below w.heap.size w w' := by
  obtain ⟨i0, hi0, hz0, hz1, hz2⟩ := info_parts u8_info
  rcases A with _ | ad
  · obtain ⟨rfl, rfl⟩ := hnil rfl
    have hx : xs = [] := List.eq_nil_of_length_eq_zero (by simpa using hr.1)
    subst hx
    clear hr h1 hn hnil
    have hq := fun W : World => Lib.run_eql_slice_nil (P := Tryd.prog) W 22 5 none 0 0 0 0 Tryd.underlying22
    go_enter Tryd.func56, Tryd.ntmps56
    go_wp2
    go_ret
    exact ⟨_, _, rfl, World.ownsRow_nil _ _ _ _, Below.refl _ _⟩
  · have HR := Lib.hid hr
    have H1 := Lib.hid h1
    have hq := fun W : World => Lib.run_eql_slice_nil (P := Tryd.prog) W 22 5 (some ad) n c 0 0 Tryd.underlying22
    clear hr h1 hnil
    go_enter Tryd.func56, Tryd.ntmps56
    go_wp2_with (at_builtin; refine wpList_append_any _ rfl (.tmp 5) (.tmp 6) _ rfl w.heap.size 5 i0 _ 1 1 Tryd.underlying22 hi0 hz0 hz1 hz2 rfl (by decide) (.slice (some ⟨w.heap.size, 0, none⟩) 0 0) 0 [] rfl (World.ownsRow_made w #[] 0 (Nat.le_refl _) (by decide) rfl) B (some ad) n c xs rfl (HR.out.alloc hB _) H1.out (by simp only [maxLen]; omega) (by omega) (by simp) ?_; intro v1 w1 hown1 hg1 hat1)
    go_ret
    have hb1 : Below w.heap.size w w1 := ((Below.refl _ _).alloc (Nat.le_refl _) _).grown hg1 (by simp) (fun k hk => by simp [Value.ownBlock] at hk; omega)
    obtain ⟨A', c', rfl⟩ := slice_form hown1
    simp only [Nat.zero_add, List.nil_append] at hown1
    exact ⟨A', c', by simp, hown1, hb1⟩

set_option maxRecDepth 100000 in
set_option maxHeartbeats 400000 in
theorem wBytes_any (base g : Nat) (v : Value) (l : List UInt8) (w : World) (h : Wr w base g v l) (hsz : l.length ≤ 140737488355328) :
    Calls Tryd.prog 30 #[.pointer (some ⟨g, 0, none⟩)] w fun e w' => ∃ A' c', e = .returned (.slice A' l.length c') ∧ w'.ownsRow w.heap.size 5 1 (.slice A' l.length c') l.length (bcells l) ∧ Below w.heap.size w w' := by
  obtain ⟨hb, ho⟩ := h
  obtain ⟨A, c, rfl⟩ := slice_form ho
  have hc := hb.cell 0
  simp only [List.getElem?_toArray, List.getElem?_cons_zero] at hc
  have HO := Lib.hid ho
  clear hb ho
  go_enter Tryd.func30, Tryd.ntmps30
  go_wp2_with (go_at_call 56; refine (clone_any A l.length c w.heap.size (bcells l) w (Reads.of_own HO.out) (bcells_one _) (Nat.le_refl _) hsz (own_nil HO.out)).mono ?_; rintro e w1 ⟨A1, c1, rfl, h1, h2⟩)
  go_ret
  exact ⟨A1, c1, rfl, h1, h2⟩

set_option maxRecDepth 100000 in
set_option maxHeartbeats 400000 in
theorem wLen_any (base g : Nat) (v : Value) (l : List UInt8) (w : World) (h : Wr w base g v l) :
    Calls Tryd.prog 32 #[.pointer (some ⟨g, 0, none⟩)] w fun e w' => e = .returned (.int .i64 l.length) ∧ w = w' := by
  obtain ⟨hb, ho⟩ := h
  obtain ⟨A, c, rfl⟩ := slice_form ho
  have hc := hb.cell 0
  simp only [List.getElem?_toArray, List.getElem?_cons_zero] at hc
  clear hb ho
  go_enter Tryd.func32, Tryd.ntmps32
  go_wp2
  go_ret
  exact ⟨rfl, rfl⟩

/-- strings as cells -/
def scells (L : List ByteArray) : List Value := L.map fun s => .string s
theorem scells_length (L : List ByteArray) : (scells L).length = L.length := by simp [scells]
theorem scells_one (L : List ByteArray) : ∀ u ∈ scells L, u.oneCell' = true := by
  intro u hu
  obtain ⟨b, _, rfl⟩ := List.mem_map.1 hu
  rfl
theorem scells_append (L M : List ByteArray) : scells (L ++ M) = scells L ++ scells M := by simp [scells]

def bTexts (L : List ByteArray) : List UInt8 := L.flatMap fun s => bBuf s.data.toList
theorem bTexts_snoc (L : List ByteArray) (s : ByteArray) : bTexts (L ++ [s]) = bTexts L ++ bBuf s.data.toList := by simp [bTexts]

set_option maxRecDepth 100000 in
set_option maxHeartbeats 400000 in
theorem putText_any (base g : Nat) (v : Value) (l : List UInt8) (s : ByteArray) (w : World) (h : Wr w base g v l) (hbase : base ≤ w.heap.size) (hsz : l.length + s.size + 8 ≤ 140737488355328) :
    Calls Tryd.prog 41 #[.pointer (some ⟨g, 0, none⟩), .string s] w fun e w' => e = .returned (.tuple #[]) ∧ ∃ v', Wrote base g v v' l (bBuf s.data.toList) w w' := by
  have H0 := Lib.hid h
  clear h
  go_enter Tryd.func41, Tryd.ntmps41
  go_wp2_with (go_at_call 38; refine (wText_any base g v l s w H0.out hbase hsz).mono ?_; rintro e w2 ⟨rfl, v2, hp⟩; have HP := Lib.hid hp; clear hp)
  go_end0
  exact ⟨rfl, v2, HP.out⟩

theorem putfn_ne (w : World) : (binOp .eql 80 (.func (.func 41) #[] #[]) .nilFunc).run Tryd.prog w = .ok (.bool false) w := by kernel_rfl

set_option maxRecDepth 100000 in
set_option maxHeartbeats 400000 in
theorem wList_any (base g : Nat) (v : Value) (l : List UInt8) (A : Option Addr) (n c B : Nat) (L : List ByteArray) (w : World) (h : Wr w base g v l) (hr : Reads w B 1 A n (scells L)) (hB : B ≤ base) (hg : base ≤ g) (hbase : base ≤ w.heap.size) (hn : n ≤ 9223372036854775807) (hsz : l.length + (bTexts L).length + 8 ≤ 140737488355328) :
    Calls Tryd.prog 40 #[.pointer (some ⟨g, 0, none⟩), .slice A n c, .func (.func 41) #[] #[]] w fun e w' => e = .returned (.tuple #[]) ∧ ∃ v', Wrote base g v v' l (bInt n ++ bTexts L) w w' := by
  have hl : L.length = n := by have := hr.1; rw [scells_length] at this; omega
  subst hl
  have HL := Lib.hid (h.2.lt)
  have H0 := Lib.hid h
  have HR := Lib.hid hr
  clear h hr
  have hnf := putfn_ne
  go_enter Tryd.func40, Tryd.ntmps40
  go_wp2_with (first
    | (go_at_call 39; refine (wCount_any base g v l _ _ H0.out hbase (by omega)).mono ?_; rintro e w1 ⟨rfl, v1, hp⟩; have HP := Lib.hid hp; clear hp))
  go_loopw [16] (fun i wr => ∃ (k : Nat) (v2 : Value), k ≤ L.length ∧ i = .int .i64 k ∧ Wrote base g v v2 l (bInt L.length ++ bTexts (L.take k)) w wr) (fun i _ => L.length - (intOf i).toNat)
  case atStart => exact ⟨0, v1, Nat.zero_le _, rfl, by simpa [bTexts] using HP.out⟩
  case round =>
    clear HP
    obtain ⟨k, v2, hk, rfl, hW⟩ := hrel
    have hbw := hW.below (B := B) (by omega) (fun x hx => by have := (HL.out x hx).1; omega) (by omega)
    have hsz1 := hW.size
    have HW := Lib.hid hW
    clear hW
    by_cases hlt : k < L.length
    · obtain ⟨ad, u, e, _, hu, hcell⟩ := (HR.out.below hbw).at_ hlt
      subst e
      have hget : u = .string (L[k]) := by
        simp only [scells, List.getElem?_map, List.getElem?_eq_getElem hlt, Option.map_some, Option.some.injEq] at hu
        exact hu.symm
      subst hget
      have hle : (bTexts (L.take k)).length + (bBuf L[k].data.toList).length ≤ (bTexts L).length := by
        have e : bTexts L = bTexts (L.take k) ++ bBuf L[k].data.toList ++ bTexts (L.drop (k + 1)) := by
          rw [← bTexts_snoc, ← List.take_succ_eq_append_getElem hlt]
          simp only [bTexts, ← List.flatMap_append, List.take_append_drop]
        rw [e, List.length_append, List.length_append]
        omega
      rw [bBuf_len, ← bsize_eq] at hle
      clear hu hbw
      go_wp2_with (go_at_call 41; refine (putText_any base g v2 _ L[k] wr HW.out.1 (by omega) (by rw [List.length_append, List.length_append, bInt_len]; omega)).mono ?_; rintro e w2 ⟨rfl, v3, hp⟩; have HP := Lib.hid (HW.out.cat (Below.refl _ _) hp); clear hp)
      go_roundw
      case rel => exact ⟨k + 1, v3, by omega, by go_num, by rw [List.take_succ_eq_append_getElem hlt, bTexts_snoc, ← List.append_assoc]; exact HP.out⟩
      case measure => simp [intOf]; omega
    · have hkl : k = L.length := by omega
      have HK := Lib.hid hkl
      clear hkl hbw
      go_wp2
      go_end0
      have hW := HW.out
      rw [HK.out, List.take_of_length_le (Nat.le_refl _)] at hW
      exact ⟨rfl, v2, hW⟩
end Go.Proofs.YtbegingiedbldaaDoor
