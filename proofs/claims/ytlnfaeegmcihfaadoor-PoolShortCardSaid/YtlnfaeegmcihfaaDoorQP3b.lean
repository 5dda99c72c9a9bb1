/- Layer 1: texts as bytes, there and back. -/
import Derived.Test.YtlnfaeegmcihfaaDoorQ15
import Derived.Test.YtlnfaeegmcihfaaDoorQ16
import Derived.Test.YtlnfaeegmcihfaaDoorQ22
import Derived.Test.YtlnfaeegmcihfaaDoorQ23
import Derived.Test.YtlnfaeegmcihfaaDoorQP3a
set_option linter.unusedVariables false
set_option linter.unusedSimpArgs false
namespace Go.Proofs.PL
open Go.RowKit Go.Proofs.YtlnfaeegmcihfaaDoorW.PrintWords Go.Proofs.YtlnfaeegmcihfaaDoor.Q

def nb (l : List UInt8) : List Int := l.map fun b => (b.toNat : Int)
theorem nb_len (l : List UInt8) : (nb l).length = l.length := by simp [nb]
theorem nb_byte (l : List UInt8) : byt (nb l) := by
  intro x hx
  simp only [nb, List.mem_map] at hx
  obtain ⟨b, _, rfl⟩ := hx
  have := b.toNat_lt
  omega
theorem bytesOf_mk (l : List UInt8) : bytesOf (mk l) = nb l := by simp [bytesOf, nb]
theorem str_nb (l : List UInt8) : strOfNums (nb l) = mk l := by
  have h : ((fun n : Int => UInt8.ofNat n.toNat) ∘ fun b : UInt8 => (b.toNat : Int)) = id := by funext b; simp
  unfold strOfNums nb mk
  rw [List.map_map, h, List.map_id]
def encT (l : List UInt8) : List Int := encN l.length ++ nb l
theorem byt_append {a b : List Int} (ha : byt a) (hb : byt b) : byt (a ++ b) := fun x hx => (List.mem_append.1 hx).elim (ha x) (hb x)
theorem byt_left {a b : List Int} (h : byt (a ++ b)) : byt a := fun x hx => h x (List.mem_append_left _ hx)
theorem encT_byte (l : List UInt8) : byt (encT l) := byt_append (encN_byte _) (nb_byte _)
theorem i64_len (l : List UInt8) (h : l.length ≤ 9223372036854775807) : i64 (l.length : Int) := ⟨by omega, by omega⟩
theorem put_eq {n : Int} (hn : i64 n) (l : List Int) (hl : l.length + 10 < 140737488355328) : bin_Put.f l n = some (l ++ encN n) := by
  unfold bin_Put.f
  rw [if_pos ⟨hn.1, hn.2, hl⟩]
  rfl
theorem text_eq (l : List Int) (s : List UInt8) (hl : l.length + 10 + s.length < 140737488355328) : bin_Text.f l (mk s) = some (l ++ encT s) := by
  unfold bin_Text.f
  have hi : i64 (s.length : Int) := i64_len s (by omega)
  have h10 := encN_ten hi
  rw [size_mk, put_eq hi l (by omega), Option.bind_some, if_pos (by rw [List.length_append]; omega), bytesOf_mk, List.append_assoc]
  rfl
theorem getText_enc (l t : List Int) (s : List UInt8) (most : Int) (hm : (s.length : Int) ≤ most) (hb : byt (l ++ (encT s ++ t))) (hl : (l ++ (encT s ++ t)).length < 140737488355328) :
    Ev (fun k => bin_GetText.f k (l ++ (encT s ++ t)) l.length most) (mk s, ((l.length + (encT s).length : Nat) : Int), 0) := by
  unfold bin_GetText.f
  have hsl : s.length < 140737488355328 := by
    have : (encT s).length = (encN s.length).length + s.length := by unfold encT; rw [List.length_append, nb_len]
    rw [List.length_append, List.length_append] at hl; omega
  have hi : i64 (s.length : Int) := i64_len s (by omega)
  have h10 := encN_ten hi
  have e : l ++ (encT s ++ t) = l ++ (encN s.length ++ (nb s ++ t)) := by unfold encT; rw [List.append_assoc]
  have hlen : (l ++ (encT s ++ t)).length = l.length + ((encN s.length).length + (s.length + t.length)) := by rw [e]; simp [nb_len]
  have hget := get_enc hi l (nb s ++ t) (by rw [← e]; exact hb) (by rw [← e]; exact hl)
  rw [← e] at hget
  refine Ev.then hget ?_
  refine Ev.pos rfl (Ev.neg (by simp) ?_)
  refine Ev.step (fun k => by rw [bin_GetText.j0]) ?_
  simp only
  have w1 : wrap64 (((l ++ (encT s ++ t)).length : Int) - ((l.length + (encN s.length).length : Nat) : Int)) = ((s.length + t.length : Nat) : Int) := by rw [wrap_in _ (by omega) (by omega)]; omega
  have w2 : wrap64 (((l.length + (encN s.length).length : Nat) : Int) + (s.length : Int)) = ((l.length + (encN s.length).length + s.length : Nat) : Int) := by rw [wrap_in _ (by omega) (by omega)]; omega
  rw [w1, w2]
  refine Ev.neg (by simp; omega) (Ev.neg (by omega) (Ev.pos (by omega) (Ev.pos (by omega) (Ev.pos (by omega) (Ev.pure ?_)))))
  have h1 : (((l.length + (encN s.length).length + s.length : Nat) : Int)).toNat = (l ++ (encN s.length ++ nb s)).length := by simp [nb_len]; omega
  have h2 : ((l.length + (encN s.length).length : Nat) : Int).toNat = (l ++ encN s.length).length := by rw [Int.toNat_natCast, List.length_append]
  have h3 : l ++ (encT s ++ t) = (l ++ (encN s.length ++ nb s)) ++ t := by rw [e]; simp
  rw [h1, h3, List.take_left, ← List.append_assoc l, h2, List.drop_left, str_nb]
  unfold encT
  rw [List.length_append, nb_len]
  simp
  omega
theorem getText_short (l : List Int) (s : List UInt8) (most : Int) (hm : (s.length : Int) ≤ most) (hb : byt l) (hl : l.length + 10 + s.length < 140737488355328) :
    Ev (fun k => bin_GetText.f k (l ++ (encT s).dropLast) l.length most) (⟨#[]⟩, 0, 4) := by
  have hi : i64 (s.length : Int) := i64_len s (by omega)
  have h10 := encN_ten hi
  have hp := encN_pos (s.length : Int)
  unfold bin_GetText.f
  by_cases h0 : s = []
  · subst h0
    have e : encT [] = encN 0 := by simp [encT, nb]
    rw [e]
    refine Ev.then (get_short (n := 0) ⟨by decide, by decide⟩ l hb (by omega)) ?_
    exact Ev.neg (by decide) (Ev.pure rfl)
  · have hn0 : nb s ≠ [] := by intro h; have := congrArg List.length h; rw [nb_len] at this; exact h0 (List.eq_nil_of_length_eq_zero this)
    have e : (encT s).dropLast = encN s.length ++ (nb s).dropLast := by unfold encT; rw [List.dropLast_append_of_ne_nil hn0]
    have hs1 : 1 ≤ s.length := by cases s with | nil => exact absurd rfl h0 | cons _ _ => simp
    have hdl : (nb s).dropLast.length = s.length - 1 := by rw [List.length_dropLast, nb_len]
    rw [e]
    have hget := get_enc hi l (nb s).dropLast (byt_append hb (byt_append (encN_byte _) (fun x hx => nb_byte s x (List.dropLast_subset _ hx)))) (by simp only [List.length_append]; omega)
    refine Ev.then hget ?_
    refine Ev.pos rfl (Ev.neg (by simp) ?_)
    refine Ev.step (fun k => by rw [bin_GetText.j0]) ?_
    simp only
    have hlen : (l ++ (encN s.length ++ (nb s).dropLast)).length = l.length + ((encN s.length).length + (s.length - 1)) := by simp only [List.length_append, hdl]
    have w1 : wrap64 (((l ++ (encN s.length ++ (nb s).dropLast)).length : Int) - ((l.length + (encN s.length).length : Nat) : Int)) = ((s.length - 1 : Nat) : Int) := by rw [wrap_in _ (by omega) (by omega)]; omega
    rw [w1]
    exact Ev.neg (by simp; omega) (Ev.pos (by omega) (Ev.pure rfl))
end Go.Proofs.PL
