/- The document's answer on texts: the code points of a sound one. -/
import Derived.Test.YtafeofgjmlhklaaGreatDoorMs
import Derived.Test.YtafeofgjmlhklaaGreatDoorMf
namespace Go.Proofs.YtafeofgjmlhklaaGreatDoor
open Go.RowKit

theorem intSlice : SliceOf Tryz.prog 40 3 (.int .i64 0) 8 := ⟨Tryz.underlying40, by kernel_rfl, rfl⟩
def i64s (ps : List Nat) : List Value := ps.map fun (p : Nat) => Value.int .i64 (p : Int)
theorem decG_enc {l : List UInt8} {p : Nat} {r : List Nat} (hp : isPt p) (h : nats l = encN p ++ r) : decG l = (p, (encN p).length) := by
  have hne : l ≠ [] := fun e => by
    have := congrArg List.length h
    have h1 := encN_pos p
    subst e
    simp [nats] at this
    omega
  unfold decG
  rw [if_neg hne, h, (dec_enc p hp r).1]
theorem encs_app (a b : List Nat) : encs (a ++ b) = encs a ++ encs b := by simp [encs]
theorem encs_len : ∀ (ps : List Nat), ps.length ≤ (encs ps).length
  | [] => Nat.zero_le _
  | p :: ps => by
    have := encs_len ps
    have := encN_pos p
    rw [encs_cons, List.length_append, List.length_cons]; omega

set_option maxRecDepth 100000 in
theorem ref4_Explode (l : List UInt8) (ps : List Nat) (w : World) (hl : l.length ≤ 17592186044415) (hp : ∀ p ∈ ps, isPt p) (hs : nats l = encs ps) :
    Calls Tryz.prog 47 #[.string ⟨l.toArray⟩] w fun e w' => ∃ a cap, e = .returned (.slice a ps.length cap) ∧ Below w.heap.size w w' ∧ w'.ownsRow w.heap.size 3 1 (.slice a ps.length cap) ps.length (i64s ps) := by
  have hlen : (encs ps).length = l.length := by rw [← hs, nats_length]
  have hpl : ps.length ≤ l.length := by rw [← hlen]; exact encs_len ps
  have hsz : (⟨l.toArray⟩ : ByteArray).size = l.length := rfl
  obtain ⟨s, hse⟩ : ∃ s : ByteArray, s = ⟨l.toArray⟩ := ⟨_, rfl⟩
  rw [← hse] at hsz ⊢
  have hSL : ∀ k : Nat, k ≤ l.length → ∀ W, (Instr.slice 9 (.string s) (some (.int .i64 (k : Int))) none none).run Tryz.prog W = .ok (.string ⟨(l.drop k).toArray⟩) W := fun k hk W => by rw [hse]; exact slice_rest l k hk W
  replace hSL := hid hSL
  clear hse
  have HS := hid hs
  have HL := hid hlen
  have HP := hid hp
  clear hs hlen hp
  go_enter Tryz.func47, Tryz.ntmps47
  go_wp2
  go_loopw [3, 4] (fun v i wr => ∃ done todo : List Nat, ps = done ++ todo ∧ i = .int .i64 ((encs done).length : Nat) ∧ wr.ownsRow w.heap.size 3 1 v done.length (i64s done) ∧ Below w.heap.size w wr) (fun _ i _ => l.length - (intOf i).toNat)
  case atStart => exact ⟨[], ps, rfl, rfl, World.ownsRow_nil _ _ _ _, Below.refl _ _⟩
  case round =>
    obtain ⟨done, todo, he, rfl, hown, hb⟩ := hrel
    have HE := hid he
    have hn : (encs done).length + (encs todo).length = l.length := by rw [← HL.out, HE.out, encs_app, List.length_append]
    have hdl : done.length + todo.length = ps.length := by rw [HE.out, List.length_append]
    have HB := hid hb
    clear he
    cases todo with
    | nil =>
      have e1 : (encs done).length = l.length := by simpa [encs] using hn
      have HD := hid (show ps = done by rw [HE.out, List.append_nil])
      have HO := hid hown
      clear hown hb hn
      rw [e1]
      have hlt2 : ¬ ((l.length : Nat) : Int) < s.size := by omega
      go_wp2
      go_ret
      obtain ⟨a, cap, rfl, _, _⟩ := owns_row HO.out
      refine ⟨a, cap, by rw [HD.out]; rfl, HB.out, ?_⟩
      rw [HD.out]; exact HO.out
    | cons p todo =>
      have hpp := HP.out p (by rw [HE.out]; simp)
      have h1 := encN_pos p
      rw [encs_cons, List.length_append] at hn
      have hd : nats (l.drop (encs done).length) = encN p ++ encs todo := by
        rw [← nats_drop, HS.out, HE.out, encs_app, encs_cons]; simp
      have C := fun w1 => ref4_Decode (l.drop (encs done).length) w1 (by rw [List.length_drop]; omega)
      rw [decG_enc hpp hd] at C
      generalize okB (nats (l.drop (encs done).length)) = bb at C
      have hsl := hSL.out (encs done).length (by omega)
      have HE2 := hid (show ps = (done ++ [p]) ++ todo by rw [HE.out]; simp)
      have hlen2 : (encs (done ++ [p])).length = (encs done).length + (encN p).length := by rw [encs_app, List.length_append]; simp [encs]
      have HL2 := hid hlen2
      clear hlen2 hd
      generalize (encs done).length = n at *
      generalize (encN p).length = k at *
      replace C := hid C
      have hlt2 : (n : Int) < s.size := by omega
      have hw : IntKind.i64.wrap ((n : Int) + (k : Int)) = ((n + k : Nat) : Int) := by rw [IntWalk.i64_in _ (by omega)]; omega
      rw [List.length_cons] at hdl
      go_wp2_with fail
      refine (C.out _).mono ?_
      rintro e w2 ⟨rfl, hb2⟩
      have hown2 := owns_below hown hb2
      have hbw := below_trans hb hb2
      have hsz2 := hbw.size
      have HBW := hid hbw
      clear hb hbw hown
      go_wp2_with (at_builtin; refine wpList_push intSlice rfl _ _ rfl w.heap.size (w0 := w2) hown2 rfl rfl rfl (by unfold maxLen; omega) (by omega) hsz2 ?_; intro v' w3 hown' hb')
      have HOW := hid (show w3.ownsRow w.heap.size 3 1 v' (done ++ [p]).length (i64s (done ++ [p])) by simpa [i64s] using hown')
      have HB3 := hid (HBW.out.trans hb')
      clear hown' hb' hown2 HBW
      go_wp2
      go_roundw
      case rel => exact ⟨done ++ [p], todo, HE2.out, by rw [HL2.out]; go_num, HOW.out, HB3.out⟩
      case measure => simp [intOf]; omega

end Go.Proofs.YtafeofgjmlhklaaGreatDoor
