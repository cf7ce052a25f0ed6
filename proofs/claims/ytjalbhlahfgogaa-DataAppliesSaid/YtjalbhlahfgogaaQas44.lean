/-
  The parts DaO of the proof, in one file. Conditions: none.
-/
import Derived.Test.YtjalbhlahfgogaaQas43
namespace Go.Proofs.Ytjalbhlahfgogaa
open Go.Eng
set_option linter.unusedVariables false
set_option linter.unusedSimpArgs false
set_option maxRecDepth 20000
set_option maxHeartbeats 2000000
theorem appL_vals {f a : ByteArray} {Q : Cel → Prop} : ∀ {ws : List Wri} {l : List Itm}, (∀ x ∈ l, ∀ c ∈ x.l, Q c) → (∀ w ∈ ws, Q w.c) → ∀ x ∈ appL f a ws l, ∀ c ∈ x.l, Q c
  | [], l, h, _ => h
  | w :: ws, l, h, hw => appL_vals (ws := ws) (l := appS f a l w) (fun x hx => by
      unfold appS wrI at hx
      split at hx
      · split at hx
        · split at hx
          · rename_i y hy
            rcases List.mem_or_eq_of_mem_set hx with hx | rfl
            · exact h x hx
            · intro c hc
              rw [Itm.l_mk] at hc
              unfold putC at hc
              split at hc
              · rcases List.mem_or_eq_of_mem_set hc with hc | rfl
                · exact h y (List.mem_of_getElem? hy) c hc
                · exact hw w (by simp)
              · rcases List.mem_append.1 hc with hc | hc
                · exact h y (List.mem_of_getElem? hy) c hc
                · simp at hc
                  subst hc
                  exact hw w (by simp)
          · exact h x hx
        · exact h x hx
      · exact h x hx) fun v hv => hw v (by simp [hv])
theorem appV_fit {d : Dat} (hd : d.Fit2) (f a : ByteArray) : (appV d f a).Fit := by
  refine .mk _ (by rw [appV_len]; exact hd.f.li) hd.f.lw (fun x hx => ⟨?_, ?_⟩) fun w hw => hd.f.w hw
  · have := appL_cells hd.c x hx
    have := hd.w
    omega
  · exact appL_vals (Q := fun c => c.v.Fit) (fun x hx c hc => hd.f.c hx hc) (fun w hw => hd.f.w hw) x hx
end Go.Proofs.Ytjalbhlahfgogaa
