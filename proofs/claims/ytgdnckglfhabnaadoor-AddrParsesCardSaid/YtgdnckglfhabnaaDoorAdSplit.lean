/- strings.Split at a text of one byte. -/
import Derived.Test.YtgdnckglfhabnaaDoorAdEnv
import Derived.Lib.SplitLaws
import Derived.Lib.IndexBytes
namespace Go.Proofs.YtgdnckglfhabnaaDoor
open Go.RowKit Go.Shelf

/-- A text's parts between bytes. -/
def spl (b : UInt8) : List UInt8 → List (List UInt8)
  | [] => [[]]
  | c :: r => if c = b then [] :: spl b r else match spl b r with
    | h :: t => (c :: h) :: t
    | [] => [[c]]

theorem splitK_one (b : UInt8) (l : List UInt8) : ∀ k, Lib.count l [b] = k → Lib.splitK [b] 0 k l = spl b l := by
  induction l with
  | nil =>
    intro k hk
    rw [Lib.count_miss (by simp [Lib.index])] at hk
    subst hk
    rfl
  | cons c l ih =>
    intro k hk
    by_cases hc : c = b
    · subst hc
      rw [Lib.count_cons_eq] at hk
      obtain ⟨j, rfl⟩ : ∃ j, k = j + 1 := ⟨k - 1, by omega⟩
      have hix : Lib.index (c :: l) [c] = 0 := by rw [Lib.index]; simp [List.isPrefixOf]
      rw [Lib.splitK, hix, if_neg (by decide), spl, if_pos rfl]
      congr 1
      simpa using ih j (by omega)
    · rw [Lib.count_cons_ne c b l hc] at hk
      have hp : ([b] : List UInt8).isPrefixOf (c :: l) = false := by simp [List.isPrefixOf, Ne.symm hc]
      have hix : Lib.index (c :: l) [b] = if Lib.index l [b] == -1 then -1 else Lib.index l [b] + 1 := by rw [Lib.index, hp]; simp
      have ih' := ih k hk
      rw [spl, if_neg hc, ← ih']
      cases k with
      | zero => rfl
      | succ k =>
        have hm : ¬ Lib.index l [b] = -1 := fun e => by rw [Lib.count_miss e] at hk; omega
        have hge := Lib.index_ge l [b]
        obtain ⟨j, hj⟩ : ∃ j : Nat, Lib.index l [b] = j := ⟨(Lib.index l [b]).toNat, by omega⟩
        have hix' : Lib.index (c :: l) [b] = ((j + 1 : Nat) : Int) := by rw [hix, if_neg (fun e => hm (beq_iff_eq.1 e)), hj]; omega
        rw [Lib.splitK, Lib.splitK, hix', hj, if_neg (fun e => by have := beq_iff_eq.1 e; omega), if_neg (fun e => by have := beq_iff_eq.1 e; omega)]
        simp

def mkB (l : List UInt8) : ByteArray := ⟨l.toArray⟩
theorem mkB_of (s : ByteArray) : mkB s.data.toList = s := by cases s; rfl
def partsB (b : UInt8) (s : ByteArray) : List ByteArray := (spl b s.data.toList).map mkB

theorem splitB_parts (b : UInt8) (s : ByteArray) : Lib.splitB ⟨#[b]⟩ 0 (Lib.countB s ⟨#[b]⟩) s = partsB b s := by
  have h := Lib.splitB_data ⟨#[b]⟩ 0 (Lib.countB s ⟨#[b]⟩) s
  rw [show (⟨#[b]⟩ : ByteArray).data.toList = [b] from rfl, splitK_one b _ _ rfl] at h
  unfold partsB
  rw [← h, List.map_map]
  have : (mkB ∘ fun x : ByteArray => x.data.toList) = id := by funext x; exact mkB_of x
  rw [this, List.map_id]
theorem parts_count (b : UInt8) (s : ByteArray) : Lib.countB s ⟨#[b]⟩ + 1 = (partsB b s).length := by
  rw [← splitB_parts, Lib.splitB_all ⟨#[b]⟩ (by show 1 ≤ 1; omega) 0 _ s rfl]

theorem spl_len (b : UInt8) (l : List UInt8) : ∀ x ∈ spl b l, x.length ≤ l.length := by
  induction l with
  | nil => intro x hx; simp [spl] at hx; rw [hx]; exact Nat.le_refl _
  | cons c r ih =>
    intro x hx
    by_cases hc : c = b
    · rw [spl, if_pos hc] at hx
      rcases List.mem_cons.1 hx with rfl | h
      · simp
      · have := ih x h
        simp; omega
    · rw [spl, if_neg hc] at hx
      cases hsp : spl b r with
      | nil =>
        rw [hsp] at hx
        simp at hx
        rw [hx]; simp
      | cons h t =>
        rw [hsp] at hx ih
        rcases List.mem_cons.1 hx with rfl | hm
        · have := ih h (List.mem_cons_self ..)
          simp; omega
        · have := ih x (List.mem_cons_of_mem _ hm)
          simp; omega
theorem parts_size (b : UInt8) (s : ByteArray) : ∀ x ∈ partsB b s, x.size ≤ s.size := by
  intro x hx
  obtain ⟨l, hl, rfl⟩ := List.mem_map.1 hx
  exact spl_len b _ l hl
theorem spl_count (b : UInt8) (l : List UInt8) : (spl b l).length ≤ l.length + 1 := by
  induction l with
  | nil => simp [spl]
  | cons c r ih =>
    by_cases hc : c = b
    · rw [spl, if_pos hc]; simp; omega
    · rw [spl, if_neg hc]
      cases hsp : spl b r with
      | nil => simp
      | cons h t => rw [hsp] at ih; simp at ih ⊢; omega
theorem parts_len (b : UInt8) (s : ByteArray) : (partsB b s).length ≤ s.size + 1 := by
  unfold partsB
  rw [List.length_map]
  exact spl_count b _

theorem split_any (b : UInt8) (s : ByteArray) (hs : s.size < 4294967281) (w : World) (env : Env w) :
    Calls Tryd.prog 49 #[.string s, .string ⟨#[b]⟩] w fun e w' => e = .returned (.slice (some ⟨w.heap.size, 0, none⟩) (partsB b s).length (partsB b s).length) ∧ w' = w.alloc (.cells ((partsB b s).map Value.string).toArray 9) := by
  obtain ⟨m, hm⟩ := env.max
  have h := Any.strings_Split { lays146 with } lays146.i9 s ⟨#[b]⟩ m w hs hm (by show 1 ≤ 1; omega)
  rw [splitB_parts, parts_count] at h
  exact h
end Go.Proofs.YtgdnckglfhabnaaDoor
