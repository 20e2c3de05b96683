/- QFnCurrentsh of the law FnCurrents: taken over, declaration by declaration, as far as the law leans on it (the words and the printed functions are the kit's own print). No condition but what each says. -/
import Derived.Test.YtedcdhnbceaaeaaZFnCurrentsav
import Derived.Test.YtedcdhnbceaaeaaZFnCurrentsaw
import Derived.Test.YtedcdhnbceaaeaaZFnCurrentsax
import Derived.Test.YtedcdhnbceaaeaaZFnCurrentsaz
import Derived.Test.YtedcdhnbceaaeaaZFnCurrentsba
import Derived.Test.YtedcdhnbceaaeaaZFnCurrentsbb
import Derived.Test.YtedcdhnbceaaeaaZFnCurrentsbc
import Derived.Test.YtedcdhnbceaaeaaZFnCurrentsbd
import Derived.Test.YtedcdhnbceaaeaaZFnCurrentsbe1
namespace Go.Proofs.Ytedcdhnbceaaeaa.PFnCurrents
open Go.RowKit Go.Proofs.YtedcdhnbceaaeaaW.PrintWords Go.Proofs.YtedcdhnbceaaeaaW.PrintLast Go.Proofs.YtedcdhnbceaaeaaW.PrintMore
attribute [local go_sem] max2_int min2_int max_two min_two max_three min_three max_four min_four   -- for this text's walks alone
set_option linter.unusedVariables false
set_option linter.unusedSimpArgs false
set_option maxHeartbeats 8000000 in
set_option maxRecDepth 100000 in
theorem laws_FnCurrents.calls (k : Nat) (A0 : Option Addr) (c0 : Nat) (l0 : List Int) (r : Bool) (w : World) (hr0 : Kd.C (Kd.int .u8) w A0 l0.length l0) (hc0 : l0.length ≤ c0) (h : laws_FnCurrents.f k l0 = some r) (hT : r = true) :
  Calls Try.prog 12 #[.slice A0 l0.length c0] w fun e w' => e = .returned (.bool r) ∧ Below w.heap.size w w' := by
 have hu118 := Try.underlying118
 have HR0 := Aside0.mk hr0
 have HC0 := Aside0.mk hc0
 clear hr0 hc0
 have HB := Aside0.mk (Below.refl w.heap.size w)
 have H : ((laws_big.f l0).bind fun t393 => (if t393 = true then (some true) else ((spec_DrawVoltsFor.f k l0).bind fun bt394 => ((impl_VoltsFor.f k bt394.1 bt394.2.1 bt394.2.2).bind fun bt400 => ((spec_VoltsFor.f k bt394.1 bt394.2.1 bt394.2.2).bind fun bt402 => ((spec_DrawCurrentOf.f k l0).bind fun bt404 => ((impl_CurrentOf.f k bt404.1 bt404.2.1 bt404.2.2).bind fun bt410 => ((spec_CurrentOf.f k bt404.1 bt404.2.1 bt404.2.2).bind fun bt412 => ((spec_DrawAddIgniter.f k l0).bind fun bt414 => ((impl_AddIgniter.f k bt414.1 bt414.2.1 bt414.2.2).bind fun bt420 => ((spec_AddIgniter.f k bt414.1 bt414.2.1 bt414.2.2).bind fun bt426 => ((spec_DrawMostIgniters.f k l0).bind fun bt432 => ((impl_MostIgniters.f k bt432.1 bt432.2.1 bt432.2.2.1 bt432.2.2.2).bind fun bt436 => ((spec_MostIgniters.f k bt432.1 bt432.2.1 bt432.2.2.1 bt432.2.2.2).bind fun bt438 => (if bt400.2 = bt402.2 then (if bt400.1 = bt402.1 then (if bt410.2 = bt412.2 then (if bt410.1 = bt412.1 then (if bt420.2.2 = bt426.2.2 then ((laws_likeCircuit.f k bt420.1 bt420.2.1 bt426.1 bt426.2.1).bind fun t440 => (if t440 = true then (if bt436.2 = bt438.2 then (laws_FnCurrents.j0 k l0 bt394.2.2 bt400.1 bt400.2 bt414.2.2 bt420.2.2 bt432.1 bt432.2.1 bt432.2.2.1 bt432.2.2.2 bt436.2 bt438.1 (bt436.1 != bt438.1) bt394.1 bt394.2.1 bt414.1 bt414.2.1 bt420.1 bt420.2.1) else (laws_FnCurrents.j0 k l0 bt394.2.2 bt400.1 bt400.2 bt414.2.2 bt420.2.2 bt432.1 bt432.2.1 bt432.2.2.1 bt432.2.2.2 bt436.2 bt438.1 true bt394.1 bt394.2.1 bt414.1 bt414.2.1 bt420.1 bt420.2.1)) else (laws_FnCurrents.j0 k l0 bt394.2.2 bt400.1 bt400.2 bt414.2.2 bt420.2.2 bt432.1 bt432.2.1 bt432.2.2.1 bt432.2.2.2 bt436.2 bt438.1 true bt394.1 bt394.2.1 bt414.1 bt414.2.1 bt420.1 bt420.2.1))) else (laws_FnCurrents.j0 k l0 bt394.2.2 bt400.1 bt400.2 bt414.2.2 bt420.2.2 bt432.1 bt432.2.1 bt432.2.2.1 bt432.2.2.2 bt436.2 bt438.1 true bt394.1 bt394.2.1 bt414.1 bt414.2.1 bt420.1 bt420.2.1)) else (laws_FnCurrents.j0 k l0 bt394.2.2 bt400.1 bt400.2 bt414.2.2 bt420.2.2 bt432.1 bt432.2.1 bt432.2.2.1 bt432.2.2.2 bt436.2 bt438.1 true bt394.1 bt394.2.1 bt414.1 bt414.2.1 bt420.1 bt420.2.1)) else (laws_FnCurrents.j0 k l0 bt394.2.2 bt400.1 bt400.2 bt414.2.2 bt420.2.2 bt432.1 bt432.2.1 bt432.2.2.1 bt432.2.2.2 bt436.2 bt438.1 true bt394.1 bt394.2.1 bt414.1 bt414.2.1 bt420.1 bt420.2.1)) else (laws_FnCurrents.j0 k l0 bt394.2.2 bt400.1 bt400.2 bt414.2.2 bt420.2.2 bt432.1 bt432.2.1 bt432.2.2.1 bt432.2.2.2 bt436.2 bt438.1 true bt394.1 bt394.2.1 bt414.1 bt414.2.1 bt420.1 bt420.2.1)) else (laws_FnCurrents.j0 k l0 bt394.2.2 bt400.1 bt400.2 bt414.2.2 bt420.2.2 bt432.1 bt432.2.1 bt432.2.2.1 bt432.2.2.2 bt436.2 bt438.1 true bt394.1 bt394.2.1 bt414.1 bt414.2.1 bt420.1 bt420.2.1)))))))))))))))) = some r := h
 clear h
 replace H := Option.bind_eq_some_iff.mp H
 obtain ⟨t393, A20, H⟩ := H
 replace H : (if t393 = true then (some true) else ((spec_DrawVoltsFor.f k l0).bind fun bt394 => ((impl_VoltsFor.f k bt394.1 bt394.2.1 bt394.2.2).bind fun bt400 => ((spec_VoltsFor.f k bt394.1 bt394.2.1 bt394.2.2).bind fun bt402 => ((spec_DrawCurrentOf.f k l0).bind fun bt404 => ((impl_CurrentOf.f k bt404.1 bt404.2.1 bt404.2.2).bind fun bt410 => ((spec_CurrentOf.f k bt404.1 bt404.2.1 bt404.2.2).bind fun bt412 => ((spec_DrawAddIgniter.f k l0).bind fun bt414 => ((impl_AddIgniter.f k bt414.1 bt414.2.1 bt414.2.2).bind fun bt420 => ((spec_AddIgniter.f k bt414.1 bt414.2.1 bt414.2.2).bind fun bt426 => ((spec_DrawMostIgniters.f k l0).bind fun bt432 => ((impl_MostIgniters.f k bt432.1 bt432.2.1 bt432.2.2.1 bt432.2.2.2).bind fun bt436 => ((spec_MostIgniters.f k bt432.1 bt432.2.1 bt432.2.2.1 bt432.2.2.2).bind fun bt438 => (if bt400.2 = bt402.2 then (if bt400.1 = bt402.1 then (if bt410.2 = bt412.2 then (if bt410.1 = bt412.1 then (if bt420.2.2 = bt426.2.2 then ((laws_likeCircuit.f k bt420.1 bt420.2.1 bt426.1 bt426.2.1).bind fun t440 => (if t440 = true then (if bt436.2 = bt438.2 then (laws_FnCurrents.j0 k l0 bt394.2.2 bt400.1 bt400.2 bt414.2.2 bt420.2.2 bt432.1 bt432.2.1 bt432.2.2.1 bt432.2.2.2 bt436.2 bt438.1 (bt436.1 != bt438.1) bt394.1 bt394.2.1 bt414.1 bt414.2.1 bt420.1 bt420.2.1) else (laws_FnCurrents.j0 k l0 bt394.2.2 bt400.1 bt400.2 bt414.2.2 bt420.2.2 bt432.1 bt432.2.1 bt432.2.2.1 bt432.2.2.2 bt436.2 bt438.1 true bt394.1 bt394.2.1 bt414.1 bt414.2.1 bt420.1 bt420.2.1)) else (laws_FnCurrents.j0 k l0 bt394.2.2 bt400.1 bt400.2 bt414.2.2 bt420.2.2 bt432.1 bt432.2.1 bt432.2.2.1 bt432.2.2.2 bt436.2 bt438.1 true bt394.1 bt394.2.1 bt414.1 bt414.2.1 bt420.1 bt420.2.1))) else (laws_FnCurrents.j0 k l0 bt394.2.2 bt400.1 bt400.2 bt414.2.2 bt420.2.2 bt432.1 bt432.2.1 bt432.2.2.1 bt432.2.2.2 bt436.2 bt438.1 true bt394.1 bt394.2.1 bt414.1 bt414.2.1 bt420.1 bt420.2.1)) else (laws_FnCurrents.j0 k l0 bt394.2.2 bt400.1 bt400.2 bt414.2.2 bt420.2.2 bt432.1 bt432.2.1 bt432.2.2.1 bt432.2.2.2 bt436.2 bt438.1 true bt394.1 bt394.2.1 bt414.1 bt414.2.1 bt420.1 bt420.2.1)) else (laws_FnCurrents.j0 k l0 bt394.2.2 bt400.1 bt400.2 bt414.2.2 bt420.2.2 bt432.1 bt432.2.1 bt432.2.2.1 bt432.2.2.2 bt436.2 bt438.1 true bt394.1 bt394.2.1 bt414.1 bt414.2.1 bt420.1 bt420.2.1)) else (laws_FnCurrents.j0 k l0 bt394.2.2 bt400.1 bt400.2 bt414.2.2 bt420.2.2 bt432.1 bt432.2.1 bt432.2.2.1 bt432.2.2.2 bt436.2 bt438.1 true bt394.1 bt394.2.1 bt414.1 bt414.2.1 bt420.1 bt420.2.1)) else (laws_FnCurrents.j0 k l0 bt394.2.2 bt400.1 bt400.2 bt414.2.2 bt420.2.2 bt432.1 bt432.2.1 bt432.2.2.1 bt432.2.2.2 bt436.2 bt438.1 true bt394.1 bt394.2.1 bt414.1 bt414.2.1 bt420.1 bt420.2.1))))))))))))))) = some r := H
 have A2 := Aside0.mk A20
 clear A20
 by_cases c3 : t393 = true
 ·subst c3
  have H1 : (some true) = some r := by rw [if_pos rfl] at H; exact H
  clear H
  have H := H1
  clear H1
  obtain rfl := Option.some.inj H
  go_enter Try.func12, Try.ntmps12
  go_wp2_with (first | ((with_reducible refine gate_callee (f := 29) rfl ?_); refine goesL_ (some 47) rfl rfl Try.func29 (by kernel_rfl) rfl #[.slice A0 l0.length c0] rfl (by (try simp only [List.map_toArray, List.map_cons, List.map_nil]); first | done | rfl | (simp only [List.length_drop, List.length_take]; rfl)) ?_; (with_reducible refine (laws_big.calls _ _ l0 true _ ?side1 ?side2 A2.out).mono ?_); (case side1 => repeat (first | exact HR0.out | (with_reducible refine Kd.C_alloc ?_ _) | (with_reducible refine Kd.C_drewN ?_ _) | (with_reducible refine Kd.C_drew ?_))); (case side2 => exact HC0.out); rintro e w' ⟨rfl, ⟨nd, rfl⟩⟩; refine ⟨_, rfl, ?_⟩))
  go_ret
  exact ⟨by first | rfl | (simp [errW_none, errW_some] <;> rfl) | (simp [*, errW_none, errW_some] <;> rfl), bl_ HB.out⟩
 ·as_aux_lemma =>
   replace c3 := Bool.eq_false_iff.mpr c3
   subst c3
   have H1 : ((spec_DrawVoltsFor.f k l0).bind fun bt394 => ((impl_VoltsFor.f k bt394.1 bt394.2.1 bt394.2.2).bind fun bt400 => ((spec_VoltsFor.f k bt394.1 bt394.2.1 bt394.2.2).bind fun bt402 => ((spec_DrawCurrentOf.f k l0).bind fun bt404 => ((impl_CurrentOf.f k bt404.1 bt404.2.1 bt404.2.2).bind fun bt410 => ((spec_CurrentOf.f k bt404.1 bt404.2.1 bt404.2.2).bind fun bt412 => ((spec_DrawAddIgniter.f k l0).bind fun bt414 => ((impl_AddIgniter.f k bt414.1 bt414.2.1 bt414.2.2).bind fun bt420 => ((spec_AddIgniter.f k bt414.1 bt414.2.1 bt414.2.2).bind fun bt426 => ((spec_DrawMostIgniters.f k l0).bind fun bt432 => ((impl_MostIgniters.f k bt432.1 bt432.2.1 bt432.2.2.1 bt432.2.2.2).bind fun bt436 => ((spec_MostIgniters.f k bt432.1 bt432.2.1 bt432.2.2.1 bt432.2.2.2).bind fun bt438 => (if bt400.2 = bt402.2 then (if bt400.1 = bt402.1 then (if bt410.2 = bt412.2 then (if bt410.1 = bt412.1 then (if bt420.2.2 = bt426.2.2 then ((laws_likeCircuit.f k bt420.1 bt420.2.1 bt426.1 bt426.2.1).bind fun t440 => (if t440 = true then (if bt436.2 = bt438.2 then (laws_FnCurrents.j0 k l0 bt394.2.2 bt400.1 bt400.2 bt414.2.2 bt420.2.2 bt432.1 bt432.2.1 bt432.2.2.1 bt432.2.2.2 bt436.2 bt438.1 (bt436.1 != bt438.1) bt394.1 bt394.2.1 bt414.1 bt414.2.1 bt420.1 bt420.2.1) else (laws_FnCurrents.j0 k l0 bt394.2.2 bt400.1 bt400.2 bt414.2.2 bt420.2.2 bt432.1 bt432.2.1 bt432.2.2.1 bt432.2.2.2 bt436.2 bt438.1 true bt394.1 bt394.2.1 bt414.1 bt414.2.1 bt420.1 bt420.2.1)) else (laws_FnCurrents.j0 k l0 bt394.2.2 bt400.1 bt400.2 bt414.2.2 bt420.2.2 bt432.1 bt432.2.1 bt432.2.2.1 bt432.2.2.2 bt436.2 bt438.1 true bt394.1 bt394.2.1 bt414.1 bt414.2.1 bt420.1 bt420.2.1))) else (laws_FnCurrents.j0 k l0 bt394.2.2 bt400.1 bt400.2 bt414.2.2 bt420.2.2 bt432.1 bt432.2.1 bt432.2.2.1 bt432.2.2.2 bt436.2 bt438.1 true bt394.1 bt394.2.1 bt414.1 bt414.2.1 bt420.1 bt420.2.1)) else (laws_FnCurrents.j0 k l0 bt394.2.2 bt400.1 bt400.2 bt414.2.2 bt420.2.2 bt432.1 bt432.2.1 bt432.2.2.1 bt432.2.2.2 bt436.2 bt438.1 true bt394.1 bt394.2.1 bt414.1 bt414.2.1 bt420.1 bt420.2.1)) else (laws_FnCurrents.j0 k l0 bt394.2.2 bt400.1 bt400.2 bt414.2.2 bt420.2.2 bt432.1 bt432.2.1 bt432.2.2.1 bt432.2.2.2 bt436.2 bt438.1 true bt394.1 bt394.2.1 bt414.1 bt414.2.1 bt420.1 bt420.2.1)) else (laws_FnCurrents.j0 k l0 bt394.2.2 bt400.1 bt400.2 bt414.2.2 bt420.2.2 bt432.1 bt432.2.1 bt432.2.2.1 bt432.2.2.2 bt436.2 bt438.1 true bt394.1 bt394.2.1 bt414.1 bt414.2.1 bt420.1 bt420.2.1)) else (laws_FnCurrents.j0 k l0 bt394.2.2 bt400.1 bt400.2 bt414.2.2 bt420.2.2 bt432.1 bt432.2.1 bt432.2.2.1 bt432.2.2.2 bt436.2 bt438.1 true bt394.1 bt394.2.1 bt414.1 bt414.2.1 bt420.1 bt420.2.1)))))))))))))) = some r := by rw [if_neg (show ¬ (false = true) by decide)] at H; exact H
   clear H
   have H := H1
   clear H1
   replace H := Option.bind_eq_some_iff.mp H
   obtain ⟨⟨t394, t395, t398⟩, A40, H⟩ := H
   replace H : ((impl_VoltsFor.f k t394 t395 t398).bind fun bt400 => ((spec_VoltsFor.f k t394 t395 t398).bind fun bt402 => ((spec_DrawCurrentOf.f k l0).bind fun bt404 => ((impl_CurrentOf.f k bt404.1 bt404.2.1 bt404.2.2).bind fun bt410 => ((spec_CurrentOf.f k bt404.1 bt404.2.1 bt404.2.2).bind fun bt412 => ((spec_DrawAddIgniter.f k l0).bind fun bt414 => ((impl_AddIgniter.f k bt414.1 bt414.2.1 bt414.2.2).bind fun bt420 => ((spec_AddIgniter.f k bt414.1 bt414.2.1 bt414.2.2).bind fun bt426 => ((spec_DrawMostIgniters.f k l0).bind fun bt432 => ((impl_MostIgniters.f k bt432.1 bt432.2.1 bt432.2.2.1 bt432.2.2.2).bind fun bt436 => ((spec_MostIgniters.f k bt432.1 bt432.2.1 bt432.2.2.1 bt432.2.2.2).bind fun bt438 => (if bt400.2 = bt402.2 then (if bt400.1 = bt402.1 then (if bt410.2 = bt412.2 then (if bt410.1 = bt412.1 then (if bt420.2.2 = bt426.2.2 then ((laws_likeCircuit.f k bt420.1 bt420.2.1 bt426.1 bt426.2.1).bind fun t440 => (if t440 = true then (if bt436.2 = bt438.2 then (laws_FnCurrents.j0 k l0 t398 bt400.1 bt400.2 bt414.2.2 bt420.2.2 bt432.1 bt432.2.1 bt432.2.2.1 bt432.2.2.2 bt436.2 bt438.1 (bt436.1 != bt438.1) t394 t395 bt414.1 bt414.2.1 bt420.1 bt420.2.1) else (laws_FnCurrents.j0 k l0 t398 bt400.1 bt400.2 bt414.2.2 bt420.2.2 bt432.1 bt432.2.1 bt432.2.2.1 bt432.2.2.2 bt436.2 bt438.1 true t394 t395 bt414.1 bt414.2.1 bt420.1 bt420.2.1)) else (laws_FnCurrents.j0 k l0 t398 bt400.1 bt400.2 bt414.2.2 bt420.2.2 bt432.1 bt432.2.1 bt432.2.2.1 bt432.2.2.2 bt436.2 bt438.1 true t394 t395 bt414.1 bt414.2.1 bt420.1 bt420.2.1))) else (laws_FnCurrents.j0 k l0 t398 bt400.1 bt400.2 bt414.2.2 bt420.2.2 bt432.1 bt432.2.1 bt432.2.2.1 bt432.2.2.2 bt436.2 bt438.1 true t394 t395 bt414.1 bt414.2.1 bt420.1 bt420.2.1)) else (laws_FnCurrents.j0 k l0 t398 bt400.1 bt400.2 bt414.2.2 bt420.2.2 bt432.1 bt432.2.1 bt432.2.2.1 bt432.2.2.2 bt436.2 bt438.1 true t394 t395 bt414.1 bt414.2.1 bt420.1 bt420.2.1)) else (laws_FnCurrents.j0 k l0 t398 bt400.1 bt400.2 bt414.2.2 bt420.2.2 bt432.1 bt432.2.1 bt432.2.2.1 bt432.2.2.2 bt436.2 bt438.1 true t394 t395 bt414.1 bt414.2.1 bt420.1 bt420.2.1)) else (laws_FnCurrents.j0 k l0 t398 bt400.1 bt400.2 bt414.2.2 bt420.2.2 bt432.1 bt432.2.1 bt432.2.2.1 bt432.2.2.2 bt436.2 bt438.1 true t394 t395 bt414.1 bt414.2.1 bt420.1 bt420.2.1)) else (laws_FnCurrents.j0 k l0 t398 bt400.1 bt400.2 bt414.2.2 bt420.2.2 bt432.1 bt432.2.1 bt432.2.2.1 bt432.2.2.2 bt436.2 bt438.1 true t394 t395 bt414.1 bt414.2.1 bt420.1 bt420.2.1))))))))))))) = some r := H
   have A4 := Aside0.mk A40
   clear A40
   replace H := Option.bind_eq_some_iff.mp H
   obtain ⟨⟨t400, t401⟩, A50, H⟩ := H
   replace H : ((spec_VoltsFor.f k t394 t395 t398).bind fun bt402 => ((spec_DrawCurrentOf.f k l0).bind fun bt404 => ((impl_CurrentOf.f k bt404.1 bt404.2.1 bt404.2.2).bind fun bt410 => ((spec_CurrentOf.f k bt404.1 bt404.2.1 bt404.2.2).bind fun bt412 => ((spec_DrawAddIgniter.f k l0).bind fun bt414 => ((impl_AddIgniter.f k bt414.1 bt414.2.1 bt414.2.2).bind fun bt420 => ((spec_AddIgniter.f k bt414.1 bt414.2.1 bt414.2.2).bind fun bt426 => ((spec_DrawMostIgniters.f k l0).bind fun bt432 => ((impl_MostIgniters.f k bt432.1 bt432.2.1 bt432.2.2.1 bt432.2.2.2).bind fun bt436 => ((spec_MostIgniters.f k bt432.1 bt432.2.1 bt432.2.2.1 bt432.2.2.2).bind fun bt438 => (if t401 = bt402.2 then (if t400 = bt402.1 then (if bt410.2 = bt412.2 then (if bt410.1 = bt412.1 then (if bt420.2.2 = bt426.2.2 then ((laws_likeCircuit.f k bt420.1 bt420.2.1 bt426.1 bt426.2.1).bind fun t440 => (if t440 = true then (if bt436.2 = bt438.2 then (laws_FnCurrents.j0 k l0 t398 t400 t401 bt414.2.2 bt420.2.2 bt432.1 bt432.2.1 bt432.2.2.1 bt432.2.2.2 bt436.2 bt438.1 (bt436.1 != bt438.1) t394 t395 bt414.1 bt414.2.1 bt420.1 bt420.2.1) else (laws_FnCurrents.j0 k l0 t398 t400 t401 bt414.2.2 bt420.2.2 bt432.1 bt432.2.1 bt432.2.2.1 bt432.2.2.2 bt436.2 bt438.1 true t394 t395 bt414.1 bt414.2.1 bt420.1 bt420.2.1)) else (laws_FnCurrents.j0 k l0 t398 t400 t401 bt414.2.2 bt420.2.2 bt432.1 bt432.2.1 bt432.2.2.1 bt432.2.2.2 bt436.2 bt438.1 true t394 t395 bt414.1 bt414.2.1 bt420.1 bt420.2.1))) else (laws_FnCurrents.j0 k l0 t398 t400 t401 bt414.2.2 bt420.2.2 bt432.1 bt432.2.1 bt432.2.2.1 bt432.2.2.2 bt436.2 bt438.1 true t394 t395 bt414.1 bt414.2.1 bt420.1 bt420.2.1)) else (laws_FnCurrents.j0 k l0 t398 t400 t401 bt414.2.2 bt420.2.2 bt432.1 bt432.2.1 bt432.2.2.1 bt432.2.2.2 bt436.2 bt438.1 true t394 t395 bt414.1 bt414.2.1 bt420.1 bt420.2.1)) else (laws_FnCurrents.j0 k l0 t398 t400 t401 bt414.2.2 bt420.2.2 bt432.1 bt432.2.1 bt432.2.2.1 bt432.2.2.2 bt436.2 bt438.1 true t394 t395 bt414.1 bt414.2.1 bt420.1 bt420.2.1)) else (laws_FnCurrents.j0 k l0 t398 t400 t401 bt414.2.2 bt420.2.2 bt432.1 bt432.2.1 bt432.2.2.1 bt432.2.2.2 bt436.2 bt438.1 true t394 t395 bt414.1 bt414.2.1 bt420.1 bt420.2.1)) else (laws_FnCurrents.j0 k l0 t398 t400 t401 bt414.2.2 bt420.2.2 bt432.1 bt432.2.1 bt432.2.2.1 bt432.2.2.2 bt436.2 bt438.1 true t394 t395 bt414.1 bt414.2.1 bt420.1 bt420.2.1)))))))))))) = some r := H
   have A5 := Aside0.mk A50
   clear A50
   replace H := Option.bind_eq_some_iff.mp H
   obtain ⟨⟨t402, t403⟩, A60, H⟩ := H
   replace H : ((spec_DrawCurrentOf.f k l0).bind fun bt404 => ((impl_CurrentOf.f k bt404.1 bt404.2.1 bt404.2.2).bind fun bt410 => ((spec_CurrentOf.f k bt404.1 bt404.2.1 bt404.2.2).bind fun bt412 => ((spec_DrawAddIgniter.f k l0).bind fun bt414 => ((impl_AddIgniter.f k bt414.1 bt414.2.1 bt414.2.2).bind fun bt420 => ((spec_AddIgniter.f k bt414.1 bt414.2.1 bt414.2.2).bind fun bt426 => ((spec_DrawMostIgniters.f k l0).bind fun bt432 => ((impl_MostIgniters.f k bt432.1 bt432.2.1 bt432.2.2.1 bt432.2.2.2).bind fun bt436 => ((spec_MostIgniters.f k bt432.1 bt432.2.1 bt432.2.2.1 bt432.2.2.2).bind fun bt438 => (if t401 = t403 then (if t400 = t402 then (if bt410.2 = bt412.2 then (if bt410.1 = bt412.1 then (if bt420.2.2 = bt426.2.2 then ((laws_likeCircuit.f k bt420.1 bt420.2.1 bt426.1 bt426.2.1).bind fun t440 => (if t440 = true then (if bt436.2 = bt438.2 then (laws_FnCurrents.j0 k l0 t398 t400 t401 bt414.2.2 bt420.2.2 bt432.1 bt432.2.1 bt432.2.2.1 bt432.2.2.2 bt436.2 bt438.1 (bt436.1 != bt438.1) t394 t395 bt414.1 bt414.2.1 bt420.1 bt420.2.1) else (laws_FnCurrents.j0 k l0 t398 t400 t401 bt414.2.2 bt420.2.2 bt432.1 bt432.2.1 bt432.2.2.1 bt432.2.2.2 bt436.2 bt438.1 true t394 t395 bt414.1 bt414.2.1 bt420.1 bt420.2.1)) else (laws_FnCurrents.j0 k l0 t398 t400 t401 bt414.2.2 bt420.2.2 bt432.1 bt432.2.1 bt432.2.2.1 bt432.2.2.2 bt436.2 bt438.1 true t394 t395 bt414.1 bt414.2.1 bt420.1 bt420.2.1))) else (laws_FnCurrents.j0 k l0 t398 t400 t401 bt414.2.2 bt420.2.2 bt432.1 bt432.2.1 bt432.2.2.1 bt432.2.2.2 bt436.2 bt438.1 true t394 t395 bt414.1 bt414.2.1 bt420.1 bt420.2.1)) else (laws_FnCurrents.j0 k l0 t398 t400 t401 bt414.2.2 bt420.2.2 bt432.1 bt432.2.1 bt432.2.2.1 bt432.2.2.2 bt436.2 bt438.1 true t394 t395 bt414.1 bt414.2.1 bt420.1 bt420.2.1)) else (laws_FnCurrents.j0 k l0 t398 t400 t401 bt414.2.2 bt420.2.2 bt432.1 bt432.2.1 bt432.2.2.1 bt432.2.2.2 bt436.2 bt438.1 true t394 t395 bt414.1 bt414.2.1 bt420.1 bt420.2.1)) else (laws_FnCurrents.j0 k l0 t398 t400 t401 bt414.2.2 bt420.2.2 bt432.1 bt432.2.1 bt432.2.2.1 bt432.2.2.2 bt436.2 bt438.1 true t394 t395 bt414.1 bt414.2.1 bt420.1 bt420.2.1)) else (laws_FnCurrents.j0 k l0 t398 t400 t401 bt414.2.2 bt420.2.2 bt432.1 bt432.2.1 bt432.2.2.1 bt432.2.2.2 bt436.2 bt438.1 true t394 t395 bt414.1 bt414.2.1 bt420.1 bt420.2.1))))))))))) = some r := H
   have A6 := Aside0.mk A60
   clear A60
   replace H := Option.bind_eq_some_iff.mp H
   obtain ⟨⟨t404, t405, t408⟩, A70, H⟩ := H
   replace H : ((impl_CurrentOf.f k t404 t405 t408).bind fun bt410 => ((spec_CurrentOf.f k t404 t405 t408).bind fun bt412 => ((spec_DrawAddIgniter.f k l0).bind fun bt414 => ((impl_AddIgniter.f k bt414.1 bt414.2.1 bt414.2.2).bind fun bt420 => ((spec_AddIgniter.f k bt414.1 bt414.2.1 bt414.2.2).bind fun bt426 => ((spec_DrawMostIgniters.f k l0).bind fun bt432 => ((impl_MostIgniters.f k bt432.1 bt432.2.1 bt432.2.2.1 bt432.2.2.2).bind fun bt436 => ((spec_MostIgniters.f k bt432.1 bt432.2.1 bt432.2.2.1 bt432.2.2.2).bind fun bt438 => (if t401 = t403 then (if t400 = t402 then (if bt410.2 = bt412.2 then (if bt410.1 = bt412.1 then (if bt420.2.2 = bt426.2.2 then ((laws_likeCircuit.f k bt420.1 bt420.2.1 bt426.1 bt426.2.1).bind fun t440 => (if t440 = true then (if bt436.2 = bt438.2 then (laws_FnCurrents.j0 k l0 t398 t400 t401 bt414.2.2 bt420.2.2 bt432.1 bt432.2.1 bt432.2.2.1 bt432.2.2.2 bt436.2 bt438.1 (bt436.1 != bt438.1) t394 t395 bt414.1 bt414.2.1 bt420.1 bt420.2.1) else (laws_FnCurrents.j0 k l0 t398 t400 t401 bt414.2.2 bt420.2.2 bt432.1 bt432.2.1 bt432.2.2.1 bt432.2.2.2 bt436.2 bt438.1 true t394 t395 bt414.1 bt414.2.1 bt420.1 bt420.2.1)) else (laws_FnCurrents.j0 k l0 t398 t400 t401 bt414.2.2 bt420.2.2 bt432.1 bt432.2.1 bt432.2.2.1 bt432.2.2.2 bt436.2 bt438.1 true t394 t395 bt414.1 bt414.2.1 bt420.1 bt420.2.1))) else (laws_FnCurrents.j0 k l0 t398 t400 t401 bt414.2.2 bt420.2.2 bt432.1 bt432.2.1 bt432.2.2.1 bt432.2.2.2 bt436.2 bt438.1 true t394 t395 bt414.1 bt414.2.1 bt420.1 bt420.2.1)) else (laws_FnCurrents.j0 k l0 t398 t400 t401 bt414.2.2 bt420.2.2 bt432.1 bt432.2.1 bt432.2.2.1 bt432.2.2.2 bt436.2 bt438.1 true t394 t395 bt414.1 bt414.2.1 bt420.1 bt420.2.1)) else (laws_FnCurrents.j0 k l0 t398 t400 t401 bt414.2.2 bt420.2.2 bt432.1 bt432.2.1 bt432.2.2.1 bt432.2.2.2 bt436.2 bt438.1 true t394 t395 bt414.1 bt414.2.1 bt420.1 bt420.2.1)) else (laws_FnCurrents.j0 k l0 t398 t400 t401 bt414.2.2 bt420.2.2 bt432.1 bt432.2.1 bt432.2.2.1 bt432.2.2.2 bt436.2 bt438.1 true t394 t395 bt414.1 bt414.2.1 bt420.1 bt420.2.1)) else (laws_FnCurrents.j0 k l0 t398 t400 t401 bt414.2.2 bt420.2.2 bt432.1 bt432.2.1 bt432.2.2.1 bt432.2.2.2 bt436.2 bt438.1 true t394 t395 bt414.1 bt414.2.1 bt420.1 bt420.2.1)))))))))) = some r := H
   have A7 := Aside0.mk A70
   clear A70
   replace H := Option.bind_eq_some_iff.mp H
   obtain ⟨⟨t410, t411⟩, A80, H⟩ := H
   replace H : ((spec_CurrentOf.f k t404 t405 t408).bind fun bt412 => ((spec_DrawAddIgniter.f k l0).bind fun bt414 => ((impl_AddIgniter.f k bt414.1 bt414.2.1 bt414.2.2).bind fun bt420 => ((spec_AddIgniter.f k bt414.1 bt414.2.1 bt414.2.2).bind fun bt426 => ((spec_DrawMostIgniters.f k l0).bind fun bt432 => ((impl_MostIgniters.f k bt432.1 bt432.2.1 bt432.2.2.1 bt432.2.2.2).bind fun bt436 => ((spec_MostIgniters.f k bt432.1 bt432.2.1 bt432.2.2.1 bt432.2.2.2).bind fun bt438 => (if t401 = t403 then (if t400 = t402 then (if t411 = bt412.2 then (if t410 = bt412.1 then (if bt420.2.2 = bt426.2.2 then ((laws_likeCircuit.f k bt420.1 bt420.2.1 bt426.1 bt426.2.1).bind fun t440 => (if t440 = true then (if bt436.2 = bt438.2 then (laws_FnCurrents.j0 k l0 t398 t400 t401 bt414.2.2 bt420.2.2 bt432.1 bt432.2.1 bt432.2.2.1 bt432.2.2.2 bt436.2 bt438.1 (bt436.1 != bt438.1) t394 t395 bt414.1 bt414.2.1 bt420.1 bt420.2.1) else (laws_FnCurrents.j0 k l0 t398 t400 t401 bt414.2.2 bt420.2.2 bt432.1 bt432.2.1 bt432.2.2.1 bt432.2.2.2 bt436.2 bt438.1 true t394 t395 bt414.1 bt414.2.1 bt420.1 bt420.2.1)) else (laws_FnCurrents.j0 k l0 t398 t400 t401 bt414.2.2 bt420.2.2 bt432.1 bt432.2.1 bt432.2.2.1 bt432.2.2.2 bt436.2 bt438.1 true t394 t395 bt414.1 bt414.2.1 bt420.1 bt420.2.1))) else (laws_FnCurrents.j0 k l0 t398 t400 t401 bt414.2.2 bt420.2.2 bt432.1 bt432.2.1 bt432.2.2.1 bt432.2.2.2 bt436.2 bt438.1 true t394 t395 bt414.1 bt414.2.1 bt420.1 bt420.2.1)) else (laws_FnCurrents.j0 k l0 t398 t400 t401 bt414.2.2 bt420.2.2 bt432.1 bt432.2.1 bt432.2.2.1 bt432.2.2.2 bt436.2 bt438.1 true t394 t395 bt414.1 bt414.2.1 bt420.1 bt420.2.1)) else (laws_FnCurrents.j0 k l0 t398 t400 t401 bt414.2.2 bt420.2.2 bt432.1 bt432.2.1 bt432.2.2.1 bt432.2.2.2 bt436.2 bt438.1 true t394 t395 bt414.1 bt414.2.1 bt420.1 bt420.2.1)) else (laws_FnCurrents.j0 k l0 t398 t400 t401 bt414.2.2 bt420.2.2 bt432.1 bt432.2.1 bt432.2.2.1 bt432.2.2.2 bt436.2 bt438.1 true t394 t395 bt414.1 bt414.2.1 bt420.1 bt420.2.1)) else (laws_FnCurrents.j0 k l0 t398 t400 t401 bt414.2.2 bt420.2.2 bt432.1 bt432.2.1 bt432.2.2.1 bt432.2.2.2 bt436.2 bt438.1 true t394 t395 bt414.1 bt414.2.1 bt420.1 bt420.2.1))))))))) = some r := H
   have A8 := Aside0.mk A80
   clear A80
   replace H := Option.bind_eq_some_iff.mp H
   obtain ⟨⟨t412, t413⟩, A90, H⟩ := H
   replace H : ((spec_DrawAddIgniter.f k l0).bind fun bt414 => ((impl_AddIgniter.f k bt414.1 bt414.2.1 bt414.2.2).bind fun bt420 => ((spec_AddIgniter.f k bt414.1 bt414.2.1 bt414.2.2).bind fun bt426 => ((spec_DrawMostIgniters.f k l0).bind fun bt432 => ((impl_MostIgniters.f k bt432.1 bt432.2.1 bt432.2.2.1 bt432.2.2.2).bind fun bt436 => ((spec_MostIgniters.f k bt432.1 bt432.2.1 bt432.2.2.1 bt432.2.2.2).bind fun bt438 => (if t401 = t403 then (if t400 = t402 then (if t411 = t413 then (if t410 = t412 then (if bt420.2.2 = bt426.2.2 then ((laws_likeCircuit.f k bt420.1 bt420.2.1 bt426.1 bt426.2.1).bind fun t440 => (if t440 = true then (if bt436.2 = bt438.2 then (laws_FnCurrents.j0 k l0 t398 t400 t401 bt414.2.2 bt420.2.2 bt432.1 bt432.2.1 bt432.2.2.1 bt432.2.2.2 bt436.2 bt438.1 (bt436.1 != bt438.1) t394 t395 bt414.1 bt414.2.1 bt420.1 bt420.2.1) else (laws_FnCurrents.j0 k l0 t398 t400 t401 bt414.2.2 bt420.2.2 bt432.1 bt432.2.1 bt432.2.2.1 bt432.2.2.2 bt436.2 bt438.1 true t394 t395 bt414.1 bt414.2.1 bt420.1 bt420.2.1)) else (laws_FnCurrents.j0 k l0 t398 t400 t401 bt414.2.2 bt420.2.2 bt432.1 bt432.2.1 bt432.2.2.1 bt432.2.2.2 bt436.2 bt438.1 true t394 t395 bt414.1 bt414.2.1 bt420.1 bt420.2.1))) else (laws_FnCurrents.j0 k l0 t398 t400 t401 bt414.2.2 bt420.2.2 bt432.1 bt432.2.1 bt432.2.2.1 bt432.2.2.2 bt436.2 bt438.1 true t394 t395 bt414.1 bt414.2.1 bt420.1 bt420.2.1)) else (laws_FnCurrents.j0 k l0 t398 t400 t401 bt414.2.2 bt420.2.2 bt432.1 bt432.2.1 bt432.2.2.1 bt432.2.2.2 bt436.2 bt438.1 true t394 t395 bt414.1 bt414.2.1 bt420.1 bt420.2.1)) else (laws_FnCurrents.j0 k l0 t398 t400 t401 bt414.2.2 bt420.2.2 bt432.1 bt432.2.1 bt432.2.2.1 bt432.2.2.2 bt436.2 bt438.1 true t394 t395 bt414.1 bt414.2.1 bt420.1 bt420.2.1)) else (laws_FnCurrents.j0 k l0 t398 t400 t401 bt414.2.2 bt420.2.2 bt432.1 bt432.2.1 bt432.2.2.1 bt432.2.2.2 bt436.2 bt438.1 true t394 t395 bt414.1 bt414.2.1 bt420.1 bt420.2.1)) else (laws_FnCurrents.j0 k l0 t398 t400 t401 bt414.2.2 bt420.2.2 bt432.1 bt432.2.1 bt432.2.2.1 bt432.2.2.2 bt436.2 bt438.1 true t394 t395 bt414.1 bt414.2.1 bt420.1 bt420.2.1)))))))) = some r := H
   have A9 := Aside0.mk A90
   clear A90
   replace H := Option.bind_eq_some_iff.mp H
   obtain ⟨⟨t414, t415, t418⟩, A100, H⟩ := H
   replace H : ((impl_AddIgniter.f k t414 t415 t418).bind fun bt420 => ((spec_AddIgniter.f k t414 t415 t418).bind fun bt426 => ((spec_DrawMostIgniters.f k l0).bind fun bt432 => ((impl_MostIgniters.f k bt432.1 bt432.2.1 bt432.2.2.1 bt432.2.2.2).bind fun bt436 => ((spec_MostIgniters.f k bt432.1 bt432.2.1 bt432.2.2.1 bt432.2.2.2).bind fun bt438 => (if t401 = t403 then (if t400 = t402 then (if t411 = t413 then (if t410 = t412 then (if bt420.2.2 = bt426.2.2 then ((laws_likeCircuit.f k bt420.1 bt420.2.1 bt426.1 bt426.2.1).bind fun t440 => (if t440 = true then (if bt436.2 = bt438.2 then (laws_FnCurrents.j0 k l0 t398 t400 t401 t418 bt420.2.2 bt432.1 bt432.2.1 bt432.2.2.1 bt432.2.2.2 bt436.2 bt438.1 (bt436.1 != bt438.1) t394 t395 t414 t415 bt420.1 bt420.2.1) else (laws_FnCurrents.j0 k l0 t398 t400 t401 t418 bt420.2.2 bt432.1 bt432.2.1 bt432.2.2.1 bt432.2.2.2 bt436.2 bt438.1 true t394 t395 t414 t415 bt420.1 bt420.2.1)) else (laws_FnCurrents.j0 k l0 t398 t400 t401 t418 bt420.2.2 bt432.1 bt432.2.1 bt432.2.2.1 bt432.2.2.2 bt436.2 bt438.1 true t394 t395 t414 t415 bt420.1 bt420.2.1))) else (laws_FnCurrents.j0 k l0 t398 t400 t401 t418 bt420.2.2 bt432.1 bt432.2.1 bt432.2.2.1 bt432.2.2.2 bt436.2 bt438.1 true t394 t395 t414 t415 bt420.1 bt420.2.1)) else (laws_FnCurrents.j0 k l0 t398 t400 t401 t418 bt420.2.2 bt432.1 bt432.2.1 bt432.2.2.1 bt432.2.2.2 bt436.2 bt438.1 true t394 t395 t414 t415 bt420.1 bt420.2.1)) else (laws_FnCurrents.j0 k l0 t398 t400 t401 t418 bt420.2.2 bt432.1 bt432.2.1 bt432.2.2.1 bt432.2.2.2 bt436.2 bt438.1 true t394 t395 t414 t415 bt420.1 bt420.2.1)) else (laws_FnCurrents.j0 k l0 t398 t400 t401 t418 bt420.2.2 bt432.1 bt432.2.1 bt432.2.2.1 bt432.2.2.2 bt436.2 bt438.1 true t394 t395 t414 t415 bt420.1 bt420.2.1)) else (laws_FnCurrents.j0 k l0 t398 t400 t401 t418 bt420.2.2 bt432.1 bt432.2.1 bt432.2.2.1 bt432.2.2.2 bt436.2 bt438.1 true t394 t395 t414 t415 bt420.1 bt420.2.1))))))) = some r := H
   have A10 := Aside0.mk A100
   clear A100
   replace H := Option.bind_eq_some_iff.mp H
   obtain ⟨⟨t420, t421, t424⟩, A110, H⟩ := H
   replace H : ((spec_AddIgniter.f k t414 t415 t418).bind fun bt426 => ((spec_DrawMostIgniters.f k l0).bind fun bt432 => ((impl_MostIgniters.f k bt432.1 bt432.2.1 bt432.2.2.1 bt432.2.2.2).bind fun bt436 => ((spec_MostIgniters.f k bt432.1 bt432.2.1 bt432.2.2.1 bt432.2.2.2).bind fun bt438 => (if t401 = t403 then (if t400 = t402 then (if t411 = t413 then (if t410 = t412 then (if t424 = bt426.2.2 then ((laws_likeCircuit.f k t420 t421 bt426.1 bt426.2.1).bind fun t440 => (if t440 = true then (if bt436.2 = bt438.2 then (laws_FnCurrents.j0 k l0 t398 t400 t401 t418 t424 bt432.1 bt432.2.1 bt432.2.2.1 bt432.2.2.2 bt436.2 bt438.1 (bt436.1 != bt438.1) t394 t395 t414 t415 t420 t421) else (laws_FnCurrents.j0 k l0 t398 t400 t401 t418 t424 bt432.1 bt432.2.1 bt432.2.2.1 bt432.2.2.2 bt436.2 bt438.1 true t394 t395 t414 t415 t420 t421)) else (laws_FnCurrents.j0 k l0 t398 t400 t401 t418 t424 bt432.1 bt432.2.1 bt432.2.2.1 bt432.2.2.2 bt436.2 bt438.1 true t394 t395 t414 t415 t420 t421))) else (laws_FnCurrents.j0 k l0 t398 t400 t401 t418 t424 bt432.1 bt432.2.1 bt432.2.2.1 bt432.2.2.2 bt436.2 bt438.1 true t394 t395 t414 t415 t420 t421)) else (laws_FnCurrents.j0 k l0 t398 t400 t401 t418 t424 bt432.1 bt432.2.1 bt432.2.2.1 bt432.2.2.2 bt436.2 bt438.1 true t394 t395 t414 t415 t420 t421)) else (laws_FnCurrents.j0 k l0 t398 t400 t401 t418 t424 bt432.1 bt432.2.1 bt432.2.2.1 bt432.2.2.2 bt436.2 bt438.1 true t394 t395 t414 t415 t420 t421)) else (laws_FnCurrents.j0 k l0 t398 t400 t401 t418 t424 bt432.1 bt432.2.1 bt432.2.2.1 bt432.2.2.2 bt436.2 bt438.1 true t394 t395 t414 t415 t420 t421)) else (laws_FnCurrents.j0 k l0 t398 t400 t401 t418 t424 bt432.1 bt432.2.1 bt432.2.2.1 bt432.2.2.2 bt436.2 bt438.1 true t394 t395 t414 t415 t420 t421)))))) = some r := H
   have A11 := Aside0.mk A110
   clear A110
   replace H := Option.bind_eq_some_iff.mp H
   obtain ⟨⟨t426, t427, t430⟩, A120, H⟩ := H
   replace H : ((spec_DrawMostIgniters.f k l0).bind fun bt432 => ((impl_MostIgniters.f k bt432.1 bt432.2.1 bt432.2.2.1 bt432.2.2.2).bind fun bt436 => ((spec_MostIgniters.f k bt432.1 bt432.2.1 bt432.2.2.1 bt432.2.2.2).bind fun bt438 => (if t401 = t403 then (if t400 = t402 then (if t411 = t413 then (if t410 = t412 then (if t424 = t430 then ((laws_likeCircuit.f k t420 t421 t426 t427).bind fun t440 => (if t440 = true then (if bt436.2 = bt438.2 then (laws_FnCurrents.j0 k l0 t398 t400 t401 t418 t424 bt432.1 bt432.2.1 bt432.2.2.1 bt432.2.2.2 bt436.2 bt438.1 (bt436.1 != bt438.1) t394 t395 t414 t415 t420 t421) else (laws_FnCurrents.j0 k l0 t398 t400 t401 t418 t424 bt432.1 bt432.2.1 bt432.2.2.1 bt432.2.2.2 bt436.2 bt438.1 true t394 t395 t414 t415 t420 t421)) else (laws_FnCurrents.j0 k l0 t398 t400 t401 t418 t424 bt432.1 bt432.2.1 bt432.2.2.1 bt432.2.2.2 bt436.2 bt438.1 true t394 t395 t414 t415 t420 t421))) else (laws_FnCurrents.j0 k l0 t398 t400 t401 t418 t424 bt432.1 bt432.2.1 bt432.2.2.1 bt432.2.2.2 bt436.2 bt438.1 true t394 t395 t414 t415 t420 t421)) else (laws_FnCurrents.j0 k l0 t398 t400 t401 t418 t424 bt432.1 bt432.2.1 bt432.2.2.1 bt432.2.2.2 bt436.2 bt438.1 true t394 t395 t414 t415 t420 t421)) else (laws_FnCurrents.j0 k l0 t398 t400 t401 t418 t424 bt432.1 bt432.2.1 bt432.2.2.1 bt432.2.2.2 bt436.2 bt438.1 true t394 t395 t414 t415 t420 t421)) else (laws_FnCurrents.j0 k l0 t398 t400 t401 t418 t424 bt432.1 bt432.2.1 bt432.2.2.1 bt432.2.2.2 bt436.2 bt438.1 true t394 t395 t414 t415 t420 t421)) else (laws_FnCurrents.j0 k l0 t398 t400 t401 t418 t424 bt432.1 bt432.2.1 bt432.2.2.1 bt432.2.2.2 bt436.2 bt438.1 true t394 t395 t414 t415 t420 t421))))) = some r := H
   have A12 := Aside0.mk A120
   clear A120
   replace H := Option.bind_eq_some_iff.mp H
   obtain ⟨⟨t432, t433, t434, t435⟩, A130, H⟩ := H
   replace H : ((impl_MostIgniters.f k t432 t433 t434 t435).bind fun bt436 => ((spec_MostIgniters.f k t432 t433 t434 t435).bind fun bt438 => (if t401 = t403 then (if t400 = t402 then (if t411 = t413 then (if t410 = t412 then (if t424 = t430 then ((laws_likeCircuit.f k t420 t421 t426 t427).bind fun t440 => (if t440 = true then (if bt436.2 = bt438.2 then (laws_FnCurrents.j0 k l0 t398 t400 t401 t418 t424 t432 t433 t434 t435 bt436.2 bt438.1 (bt436.1 != bt438.1) t394 t395 t414 t415 t420 t421) else (laws_FnCurrents.j0 k l0 t398 t400 t401 t418 t424 t432 t433 t434 t435 bt436.2 bt438.1 true t394 t395 t414 t415 t420 t421)) else (laws_FnCurrents.j0 k l0 t398 t400 t401 t418 t424 t432 t433 t434 t435 bt436.2 bt438.1 true t394 t395 t414 t415 t420 t421))) else (laws_FnCurrents.j0 k l0 t398 t400 t401 t418 t424 t432 t433 t434 t435 bt436.2 bt438.1 true t394 t395 t414 t415 t420 t421)) else (laws_FnCurrents.j0 k l0 t398 t400 t401 t418 t424 t432 t433 t434 t435 bt436.2 bt438.1 true t394 t395 t414 t415 t420 t421)) else (laws_FnCurrents.j0 k l0 t398 t400 t401 t418 t424 t432 t433 t434 t435 bt436.2 bt438.1 true t394 t395 t414 t415 t420 t421)) else (laws_FnCurrents.j0 k l0 t398 t400 t401 t418 t424 t432 t433 t434 t435 bt436.2 bt438.1 true t394 t395 t414 t415 t420 t421)) else (laws_FnCurrents.j0 k l0 t398 t400 t401 t418 t424 t432 t433 t434 t435 bt436.2 bt438.1 true t394 t395 t414 t415 t420 t421)))) = some r := H
   have A13 := Aside0.mk A130
   clear A130
   replace H := Option.bind_eq_some_iff.mp H
   obtain ⟨⟨t436, t437⟩, A140, H⟩ := H
   replace H : ((spec_MostIgniters.f k t432 t433 t434 t435).bind fun bt438 => (if t401 = t403 then (if t400 = t402 then (if t411 = t413 then (if t410 = t412 then (if t424 = t430 then ((laws_likeCircuit.f k t420 t421 t426 t427).bind fun t440 => (if t440 = true then (if t437 = bt438.2 then (laws_FnCurrents.j0 k l0 t398 t400 t401 t418 t424 t432 t433 t434 t435 t437 bt438.1 (t436 != bt438.1) t394 t395 t414 t415 t420 t421) else (laws_FnCurrents.j0 k l0 t398 t400 t401 t418 t424 t432 t433 t434 t435 t437 bt438.1 true t394 t395 t414 t415 t420 t421)) else (laws_FnCurrents.j0 k l0 t398 t400 t401 t418 t424 t432 t433 t434 t435 t437 bt438.1 true t394 t395 t414 t415 t420 t421))) else (laws_FnCurrents.j0 k l0 t398 t400 t401 t418 t424 t432 t433 t434 t435 t437 bt438.1 true t394 t395 t414 t415 t420 t421)) else (laws_FnCurrents.j0 k l0 t398 t400 t401 t418 t424 t432 t433 t434 t435 t437 bt438.1 true t394 t395 t414 t415 t420 t421)) else (laws_FnCurrents.j0 k l0 t398 t400 t401 t418 t424 t432 t433 t434 t435 t437 bt438.1 true t394 t395 t414 t415 t420 t421)) else (laws_FnCurrents.j0 k l0 t398 t400 t401 t418 t424 t432 t433 t434 t435 t437 bt438.1 true t394 t395 t414 t415 t420 t421)) else (laws_FnCurrents.j0 k l0 t398 t400 t401 t418 t424 t432 t433 t434 t435 t437 bt438.1 true t394 t395 t414 t415 t420 t421))) = some r := H
   have A14 := Aside0.mk A140
   clear A140
   replace H := Option.bind_eq_some_iff.mp H
   obtain ⟨⟨t438, t439⟩, A150, H⟩ := H
   replace H : (if t401 = t403 then (if t400 = t402 then (if t411 = t413 then (if t410 = t412 then (if t424 = t430 then ((laws_likeCircuit.f k t420 t421 t426 t427).bind fun t440 => (if t440 = true then (if t437 = t439 then (laws_FnCurrents.j0 k l0 t398 t400 t401 t418 t424 t432 t433 t434 t435 t437 t438 (t436 != t438) t394 t395 t414 t415 t420 t421) else (laws_FnCurrents.j0 k l0 t398 t400 t401 t418 t424 t432 t433 t434 t435 t437 t438 true t394 t395 t414 t415 t420 t421)) else (laws_FnCurrents.j0 k l0 t398 t400 t401 t418 t424 t432 t433 t434 t435 t437 t438 true t394 t395 t414 t415 t420 t421))) else (laws_FnCurrents.j0 k l0 t398 t400 t401 t418 t424 t432 t433 t434 t435 t437 t438 true t394 t395 t414 t415 t420 t421)) else (laws_FnCurrents.j0 k l0 t398 t400 t401 t418 t424 t432 t433 t434 t435 t437 t438 true t394 t395 t414 t415 t420 t421)) else (laws_FnCurrents.j0 k l0 t398 t400 t401 t418 t424 t432 t433 t434 t435 t437 t438 true t394 t395 t414 t415 t420 t421)) else (laws_FnCurrents.j0 k l0 t398 t400 t401 t418 t424 t432 t433 t434 t435 t437 t438 true t394 t395 t414 t415 t420 t421)) else (laws_FnCurrents.j0 k l0 t398 t400 t401 t418 t424 t432 t433 t434 t435 t437 t438 true t394 t395 t414 t415 t420 t421)) = some r := H
   have A15 := Aside0.mk A150
   clear A150
   have HC16 := Aside0.mk H
   clear H
   go_enter Try.func12, Try.ntmps12
   go_upto_region 15 with (first | ((with_reducible refine gate_callee (f := 29) rfl ?_); refine goesL_ (some 47) rfl rfl Try.func29 (by kernel_rfl) rfl #[.slice A0 l0.length c0] rfl (by (try simp only [List.map_toArray, List.map_cons, List.map_nil]); first | done | rfl | (simp only [List.length_drop, List.length_take]; rfl)) ?_; (with_reducible refine (laws_big.calls _ _ l0 false _ ?side1 ?side2 A2.out).mono ?_); (case side1 => repeat (first | exact HR0.out | (with_reducible refine Kd.C_alloc ?_ _) | (with_reducible refine Kd.C_drewN ?_ _) | (with_reducible refine Kd.C_drew ?_))); (case side2 => exact HC0.out); rintro e w' ⟨rfl, ⟨nd, rfl⟩⟩; refine ⟨_, rfl, ?_⟩) | ((with_reducible refine gate_callee (f := 90) rfl ?_); refine goesL_ (some 50) rfl rfl Try.func90 (by kernel_rfl) rfl #[.slice A0 l0.length c0] rfl (by (try simp only [List.map_toArray, List.map_cons, List.map_nil]); first | done | rfl | (simp only [List.length_drop, List.length_take]; rfl)) ?_; (with_reducible refine (spec_DrawVoltsFor.calls k _ _ l0 t394 t395 t398 _ ?side1 ?side2 A4.out).mono ?_); (case side1 => repeat (first | exact HR0.out | (with_reducible refine Kd.C_alloc ?_ _) | (with_reducible refine Kd.C_drewN ?_ _) | (with_reducible refine Kd.C_drew ?_))); (case side2 => exact HC0.out); rintro e w17 ⟨v396, rfl, ho0, hb⟩; refine ⟨_, rfl, ?_⟩; have n0_ := Aside0.mk (Kd.R_lower ho0 (below_size (bl_ HB.out))); have n1_ := Aside0.mk (below_step (bl_ HB.out) hb); clear HB; have HO397 := n0_; have HB := n1_; clear n0_ n1_; (try clear hb); (try clear hb2); (try clear hk); (try clear hi); (try clear ho0)) | ((with_reducible refine gate_dst (N := 3) rfl ?_); refine box_event ?hg (N := 3) ?hd (cs := #[.int .i64 0, .slice none 0 0]) (t := 118) ?hr ?_; (case hd => rfl); (case hg => rfl); (case hr => first | (go_simp; done) | (go_simp; rfl)); intro gb399 hg w18 hbox hb; have n0_ := Aside0.mk (Kd.R_below (by (with_reducible repeat (first | apply Kd.R_alloc | apply Kd.R_drewN | apply Kd.R_drew)); exact HO397.out) hb); have n1_ := Aside0.mk (below_step (bl_ HB.out) hb); have n2_ := Aside0.mk (hbox); have n3_ := Aside0.mk ((by rw [hg]; exact (below_size (bl_ HB.out)) : w.heap.size ≤ gb399)); have n4_ := Aside0.mk ((by rw [hg]; exact (below_size (bl_ HB.out)) : w.heap.size ≤ gb399)); clear HO397; clear HB; have HO397 := n0_; have HB := n1_; have BK399 := n2_; have GW399 := n3_; have GE399 := n4_; clear n0_ n1_ n2_ n3_ n4_; clear hb hbox hg; have hcz19_0 : w18.cell? ⟨gb399, 0, none⟩ = some (.int .i64 0) := (blk_cell BK399.out 0).trans rfl; have hcz19_1 : w18.cell? ⟨gb399, 1, none⟩ = some (.slice none 0 0) := (blk_cell BK399.out 1).trans rfl; have hfz19_0 := blk_frozen BK399.out 0; have hfz19_1 := blk_frozen BK399.out 1; obtain ⟨Ao20, co20, eo20⟩ := Kd.R_slice HO397.out; subst eo20) | ((with_reducible refine gate_callee (f := 91) rfl ?_); refine goesL_ (some 56) rfl rfl Try.func91 (by kernel_rfl) rfl #[.agg #[.int .i64 t394, .slice Ao20 t395.length co20], .int .i64 t398] rfl (by (try simp only [List.map_toArray, List.map_cons, List.map_nil]); first | done | rfl | (simp only [List.length_drop, List.length_take]; rfl)) ?_; (with_reducible refine (impl_VoltsFor.calls k t394 _ _ t395 t398 t400 t401 _ ?side1 ?side2 A5.out).mono ?_); (case side1 => refine (Kd.R_reads' (e := 2) (base := w.heap.size) (ok := fun k_ => True) (n := t395.length) (c := co20) ?_).2.2; exact (by (with_reducible repeat (first | apply Kd.R_alloc | apply Kd.R_drewN | apply Kd.R_drew)); exact (Kd.R_mono (Kd.R_far (p := ⟨gb399, 1, none⟩) (Kd.R_far (p := ⟨gb399, 0, none⟩) (Kd.R_types HO397.out BK399.out (by decide)) (fun _ hk => hk.2) (.int .i64 t394)) (fun _ hk => hk.2) (.slice Ao20 t395.length co20)) (fun _ h_ => h_.1)))); (case side2 => exact (Kd.R_reads' HO397.out).2.1); rintro e w21 ⟨rfl, hb⟩; refine ⟨_, rfl, ?_⟩; have n0_ := Aside0.mk (Kd.R_below (by (with_reducible repeat (first | apply Kd.R_alloc | apply Kd.R_drewN | apply Kd.R_drew)); exact (Kd.R_mono (Kd.R_far (p := ⟨gb399, 1, none⟩) (Kd.R_far (p := ⟨gb399, 0, none⟩) (Kd.R_types HO397.out BK399.out (by decide)) (fun _ hk => hk.2) (.int .i64 t394)) (fun _ hk => hk.2) (.slice Ao20 t395.length co20)) (fun _ h_ => h_.1))) hb); have n1_ := Aside0.mk (blk_below (g := gb399) (o := .cells #[.int .i64 t394, .slice Ao20 t395.length co20] 118 (0, 0)) (by (with_reducible repeat (first | refine blk_drewN ?_ _ | refine blk_drew ?_ | refine blk_alloc ?_ _)); refine blk_put (cs := #[.int .i64 t394, .slice none 0 0]) ?_ 1 _ rfl; (with_reducible repeat (first | refine blk_drewN ?_ _ | refine blk_drew ?_ | refine blk_alloc ?_ _)); refine blk_put (cs := #[.int .i64 0, .slice none 0 0]) ?_ 0 _ rfl; (with_reducible repeat (first | refine blk_drewN ?_ _ | refine blk_drew ?_ | refine blk_alloc ?_ _)); exact BK399.out) hb); have n2_ := Aside0.mk (below_step (by repeat (first | (with_reducible first | exact HB.out | apply below_alloc | apply pw_below_drewN | apply below_drew1 | refine below_set ?_ GE399.out) | exact HB.out)) hb); clear HO397; clear BK399; clear HB; have HO397 := n0_; have BK399 := n1_; have HB := n2_; clear n0_ n1_ n2_; (try clear hb); (try clear hb2); (try clear hk); (try clear hi); have hcz22_0 : w21.cell? ⟨gb399, 0, none⟩ = some (.int .i64 t394) := (blk_cell BK399.out 0).trans rfl; have hcz22_1 : w21.cell? ⟨gb399, 1, none⟩ = some (.slice Ao20 t395.length co20) := (blk_cell BK399.out 1).trans rfl; have hfz22_0 := blk_frozen BK399.out 0; have hfz22_1 := blk_frozen BK399.out 1) | ((with_reducible refine gate_callee (f := 92) rfl ?_); refine goesL_ (some 62) rfl rfl Try.func92 (by kernel_rfl) rfl #[.agg #[.int .i64 t394, .slice Ao20 t395.length co20], .int .i64 t398] rfl (by (try simp only [List.map_toArray, List.map_cons, List.map_nil]); first | done | rfl | (simp only [List.length_drop, List.length_take]; rfl)) ?_; (with_reducible refine (spec_VoltsFor.calls k t394 _ _ t395 t398 t402 t403 _ ?side1 ?side2 A6.out).mono ?_); (case side1 => repeat (first | exact (Kd.R_reads' HO397.out).2.2 | (with_reducible refine Kd.C_alloc ?_ _) | (with_reducible refine Kd.C_drewN ?_ _) | (with_reducible refine Kd.C_drew ?_))); (case side2 => exact (Kd.R_reads' HO397.out).2.1); rintro e w23 ⟨rfl, hb⟩; refine ⟨_, rfl, ?_⟩; have n0_ := Aside0.mk (Kd.R_below (by (with_reducible repeat (first | apply Kd.R_alloc | apply Kd.R_drewN | apply Kd.R_drew)); exact HO397.out) hb); have n1_ := Aside0.mk (blk_below (g := gb399) (o := .cells #[.int .i64 t394, .slice Ao20 t395.length co20] 118 (0, 0)) (by (with_reducible repeat (first | refine blk_drewN ?_ _ | refine blk_drew ?_ | refine blk_alloc ?_ _)); exact BK399.out) hb); have n2_ := Aside0.mk (below_step (by repeat (first | (with_reducible first | exact HB.out | apply below_alloc | apply pw_below_drewN | apply below_drew1 | refine below_set ?_ GE399.out) | exact HB.out)) hb); clear HO397; clear BK399; clear HB; have HO397 := n0_; have BK399 := n1_; have HB := n2_; clear n0_ n1_ n2_; (try clear hb); (try clear hb2); (try clear hk); (try clear hi)) | ((with_reducible refine gate_callee (f := 93) rfl ?_); refine goesL_ (some 67) rfl rfl Try.func93 (by kernel_rfl) rfl #[.slice A0 l0.length c0] rfl (by (try simp only [List.map_toArray, List.map_cons, List.map_nil]); first | done | rfl | (simp only [List.length_drop, List.length_take]; rfl)) ?_; (with_reducible refine (spec_DrawCurrentOf.calls k _ _ l0 t404 t405 t408 _ ?side1 ?side2 A7.out).mono ?_); (case side1 => repeat (first | exact (Kd.C_below HR0.out HB.out) | (with_reducible refine Kd.C_alloc ?_ _) | (with_reducible refine Kd.C_drewN ?_ _) | (with_reducible refine Kd.C_drew ?_))); (case side2 => exact HC0.out); rintro e w24 ⟨v406, rfl, ho0, hb⟩; refine ⟨_, rfl, ?_⟩; have n0_ := Aside0.mk (Kd.R_elder' (by (with_reducible repeat (first | apply Kd.R_alloc | apply Kd.R_drewN | apply Kd.R_drew)); exact HO397.out) (Kd.R_base ho0) hb); have n1_ := Aside0.mk (Kd.R_lower (Kd.R_new' ho0 (Kd.R_lt (by (with_reducible repeat (first | apply Kd.R_alloc | apply Kd.R_drewN | apply Kd.R_drew)); exact HO397.out))) (below_size (by repeat (first | (with_reducible first | exact HB.out | apply below_alloc | apply pw_below_drewN | apply below_drew1 | refine below_set ?_ GE399.out) | exact HB.out)))); have n2_ := Aside0.mk (blk_below (g := gb399) (o := .cells #[.int .i64 t394, .slice Ao20 t395.length co20] 118 (0, 0)) (by (with_reducible repeat (first | refine blk_drewN ?_ _ | refine blk_drew ?_ | refine blk_alloc ?_ _)); exact BK399.out) hb); have n3_ := Aside0.mk (below_step (by repeat (first | (with_reducible first | exact HB.out | apply below_alloc | apply pw_below_drewN | apply below_drew1 | refine below_set ?_ GE399.out) | exact HB.out)) hb); clear HO397; clear BK399; clear HB; have HO397 := n0_; have HO407 := n1_; have BK399 := n2_; have HB := n3_; clear n0_ n1_ n2_ n3_; (try clear hb); (try clear hb2); (try clear hk); (try clear hi); (try clear ho0)) | ((with_reducible refine gate_dst (N := 9) rfl ?_); refine box_event ?hg (N := 9) ?hd (cs := #[.int .i64 0, .slice none 0 0]) (t := 118) ?hr ?_; (case hd => rfl); (case hg => rfl); (case hr => first | (go_simp; done) | (go_simp; rfl)); intro gb409 hg w25 hbox hb; have n0_ := Aside0.mk (Kd.R_below (by (with_reducible repeat (first | apply Kd.R_alloc | apply Kd.R_drewN | apply Kd.R_drew)); exact HO397.out) hb); have n1_ := Aside0.mk (Kd.R_below (by (with_reducible repeat (first | apply Kd.R_alloc | apply Kd.R_drewN | apply Kd.R_drew)); exact HO407.out) hb); have n2_ := Aside0.mk (blk_below (g := gb399) (o := .cells #[.int .i64 t394, .slice Ao20 t395.length co20] 118 (0, 0)) (by (with_reducible repeat (first | refine blk_drewN ?_ _ | refine blk_drew ?_ | refine blk_alloc ?_ _)); exact BK399.out) hb); have n3_ := Aside0.mk (below_step (by repeat (first | (with_reducible first | exact HB.out | apply below_alloc | apply pw_below_drewN | apply below_drew1 | refine below_set ?_ GE399.out) | exact HB.out)) hb); have n4_ := Aside0.mk (hbox); have n5_ := Aside0.mk ((by rw [hg]; exact (below_size (by repeat (first | (with_reducible first | exact HB.out | apply below_alloc | apply pw_below_drewN | apply below_drew1 | refine below_set ?_ GE399.out) | exact HB.out))) : w.heap.size ≤ gb409)); have n6_ := Aside0.mk ((by rw [hg]; exact (below_size (by repeat (first | (with_reducible first | exact HB.out | apply below_alloc | apply pw_below_drewN | apply below_drew1 | refine below_set ?_ GE399.out) | exact HB.out))) : w.heap.size ≤ gb409)); have n7_ := Aside0.mk ((by rw [hg]; exact Nat.ne_of_lt (blk_lt (g := gb399) (o := .cells #[.int .i64 t394, .slice Ao20 t395.length co20] 118 (0, 0)) (by (with_reducible repeat (first | refine blk_drewN ?_ _ | refine blk_drew ?_ | refine blk_alloc ?_ _)); exact BK399.out)) : gb399 ≠ gb409)); have n8_ := Aside0.mk ((by rw [hg]; exact Nat.ne_of_gt (blk_lt (g := gb399) (o := .cells #[.int .i64 t394, .slice Ao20 t395.length co20] 118 (0, 0)) (by (with_reducible repeat (first | refine blk_drewN ?_ _ | refine blk_drew ?_ | refine blk_alloc ?_ _)); exact BK399.out)) : gb409 ≠ gb399)); clear HO397; clear HO407; clear BK399; clear HB; have HO397 := n0_; have HO407 := n1_; have BK399 := n2_; have HB := n3_; have BK409 := n4_; have GW409 := n5_; have GE409 := n6_; have NB399_409 := n7_; have NB409_399 := n8_; clear n0_ n1_ n2_ n3_ n4_ n5_ n6_ n7_ n8_; clear hb hbox hg; have hnb26 := NB409_399.out; have hnc26 := NB399_409.out; have hcz27_0 : w25.cell? ⟨gb409, 0, none⟩ = some (.int .i64 0) := (blk_cell BK409.out 0).trans rfl; have hcz27_1 : w25.cell? ⟨gb409, 1, none⟩ = some (.slice none 0 0) := (blk_cell BK409.out 1).trans rfl; have hfz27_0 := blk_frozen BK409.out 0; have hfz27_1 := blk_frozen BK409.out 1; obtain ⟨Ao28, co28, eo28⟩ := Kd.R_slice HO407.out; subst eo28) | ((with_reducible refine gate_callee (f := 94) rfl ?_); refine goesL_ (some 73) rfl rfl Try.func94 (by kernel_rfl) rfl #[.agg #[.int .i64 t404, .slice Ao28 t405.length co28], .int .i64 t408] rfl (by (try simp only [List.map_toArray, List.map_cons, List.map_nil]); first | done | rfl | (simp only [List.length_drop, List.length_take]; rfl)) ?_; (with_reducible refine (impl_CurrentOf.calls k t404 _ _ t405 t408 t410 t411 _ ?side1 ?side2 A8.out).mono ?_); (case side1 => refine (Kd.R_reads' (e := 2) (base := w.heap.size) (ok := fun k_ => (True ∧ some k_ ≠ (.slice Ao20 t395.length co20 : Value).ownBlock)) (n := t405.length) (c := co28) ?_).2.2; exact (by (with_reducible repeat (first | apply Kd.R_alloc | apply Kd.R_drewN | apply Kd.R_drew)); exact (Kd.R_mono (Kd.R_far (p := ⟨gb409, 1, none⟩) (Kd.R_far (p := ⟨gb409, 0, none⟩) (Kd.R_types HO407.out BK409.out (by decide)) (fun _ hk => hk.2) (.int .i64 t404)) (fun _ hk => hk.2) (.slice Ao28 t405.length co28)) (fun _ h_ => h_.1)))); (case side2 => exact (Kd.R_reads' HO407.out).2.1); rintro e w29 ⟨rfl, hb⟩; refine ⟨_, rfl, ?_⟩; have n0_ := Aside0.mk (Kd.R_below (by (with_reducible repeat (first | apply Kd.R_alloc | apply Kd.R_drewN | apply Kd.R_drew)); exact (Kd.R_mono (Kd.R_far (p := ⟨gb409, 1, none⟩) (Kd.R_far (p := ⟨gb409, 0, none⟩) (Kd.R_types HO397.out BK409.out (by decide)) (fun _ hk => hk.2) (.int .i64 t404)) (fun _ hk => hk.2) (.slice Ao28 t405.length co28)) (fun _ h_ => h_.1))) hb); have n1_ := Aside0.mk (Kd.R_below (by (with_reducible repeat (first | apply Kd.R_alloc | apply Kd.R_drewN | apply Kd.R_drew)); exact (Kd.R_mono (Kd.R_far (p := ⟨gb409, 1, none⟩) (Kd.R_far (p := ⟨gb409, 0, none⟩) (Kd.R_types HO407.out BK409.out (by decide)) (fun _ hk => hk.2) (.int .i64 t404)) (fun _ hk => hk.2) (.slice Ao28 t405.length co28)) (fun _ h_ => h_.1))) hb); have n2_ := Aside0.mk (blk_below (g := gb399) (o := .cells #[.int .i64 t394, .slice Ao20 t395.length co20] 118 (0, 0)) (by (with_reducible repeat (first | refine blk_drewN ?_ _ | refine blk_drew ?_ | refine blk_alloc ?_ _)); refine blk_far ?_ NB399_409.out _; (with_reducible repeat (first | refine blk_drewN ?_ _ | refine blk_drew ?_ | refine blk_alloc ?_ _)); refine blk_far ?_ NB399_409.out _; (with_reducible repeat (first | refine blk_drewN ?_ _ | refine blk_drew ?_ | refine blk_alloc ?_ _)); exact BK399.out) hb); have n3_ := Aside0.mk (blk_below (g := gb409) (o := .cells #[.int .i64 t404, .slice Ao28 t405.length co28] 118 (0, 0)) (by (with_reducible repeat (first | refine blk_drewN ?_ _ | refine blk_drew ?_ | refine blk_alloc ?_ _)); refine blk_put (cs := #[.int .i64 t404, .slice none 0 0]) ?_ 1 _ rfl; (with_reducible repeat (first | refine blk_drewN ?_ _ | refine blk_drew ?_ | refine blk_alloc ?_ _)); refine blk_put (cs := #[.int .i64 0, .slice none 0 0]) ?_ 0 _ rfl; (with_reducible repeat (first | refine blk_drewN ?_ _ | refine blk_drew ?_ | refine blk_alloc ?_ _)); exact BK409.out) hb); have n4_ := Aside0.mk (below_step (by repeat (first | (with_reducible first | exact HB.out | apply below_alloc | apply pw_below_drewN | apply below_drew1 | refine below_set ?_ GE399.out | refine below_set ?_ GE409.out) | exact HB.out)) hb); clear HO397; clear HO407; clear BK399; clear BK409; clear HB; have HO397 := n0_; have HO407 := n1_; have BK399 := n2_; have BK409 := n3_; have HB := n4_; clear n0_ n1_ n2_ n3_ n4_; (try clear hb); (try clear hb2); (try clear hk); (try clear hi); have hcz30_0 : w29.cell? ⟨gb409, 0, none⟩ = some (.int .i64 t404) := (blk_cell BK409.out 0).trans rfl; have hcz30_1 : w29.cell? ⟨gb409, 1, none⟩ = some (.slice Ao28 t405.length co28) := (blk_cell BK409.out 1).trans rfl; have hfz30_0 := blk_frozen BK409.out 0; have hfz30_1 := blk_frozen BK409.out 1) | ((with_reducible refine gate_callee (f := 95) rfl ?_); refine goesL_ (some 79) rfl rfl Try.func95 (by kernel_rfl) rfl #[.agg #[.int .i64 t404, .slice Ao28 t405.length co28], .int .i64 t408] rfl (by (try simp only [List.map_toArray, List.map_cons, List.map_nil]); first | done | rfl | (simp only [List.length_drop, List.length_take]; rfl)) ?_; (with_reducible refine (spec_CurrentOf.calls k t404 _ _ t405 t408 t412 t413 _ ?side1 ?side2 A9.out).mono ?_); (case side1 => repeat (first | exact (Kd.R_reads' HO407.out).2.2 | (with_reducible refine Kd.C_alloc ?_ _) | (with_reducible refine Kd.C_drewN ?_ _) | (with_reducible refine Kd.C_drew ?_))); (case side2 => exact (Kd.R_reads' HO407.out).2.1); rintro e w31 ⟨rfl, hb⟩; refine ⟨_, rfl, ?_⟩; have n0_ := Aside0.mk (Kd.R_below (by (with_reducible repeat (first | apply Kd.R_alloc | apply Kd.R_drewN | apply Kd.R_drew)); exact HO397.out) hb); have n1_ := Aside0.mk (Kd.R_below (by (with_reducible repeat (first | apply Kd.R_alloc | apply Kd.R_drewN | apply Kd.R_drew)); exact HO407.out) hb); have n2_ := Aside0.mk (blk_below (g := gb399) (o := .cells #[.int .i64 t394, .slice Ao20 t395.length co20] 118 (0, 0)) (by (with_reducible repeat (first | refine blk_drewN ?_ _ | refine blk_drew ?_ | refine blk_alloc ?_ _)); exact BK399.out) hb); have n3_ := Aside0.mk (blk_below (g := gb409) (o := .cells #[.int .i64 t404, .slice Ao28 t405.length co28] 118 (0, 0)) (by (with_reducible repeat (first | refine blk_drewN ?_ _ | refine blk_drew ?_ | refine blk_alloc ?_ _)); exact BK409.out) hb); have n4_ := Aside0.mk (below_step (by repeat (first | (with_reducible first | exact HB.out | apply below_alloc | apply pw_below_drewN | apply below_drew1 | refine below_set ?_ GE399.out | refine below_set ?_ GE409.out) | exact HB.out)) hb); clear HO397; clear HO407; clear BK399; clear BK409; clear HB; have HO397 := n0_; have HO407 := n1_; have BK399 := n2_; have BK409 := n3_; have HB := n4_; clear n0_ n1_ n2_ n3_ n4_; (try clear hb); (try clear hb2); (try clear hk); (try clear hi)) | ((with_reducible refine gate_callee (f := 96) rfl ?_); refine goesL_ (some 84) rfl rfl Try.func96 (by kernel_rfl) rfl #[.slice A0 l0.length c0] rfl (by (try simp only [List.map_toArray, List.map_cons, List.map_nil]); first | done | rfl | (simp only [List.length_drop, List.length_take]; rfl)) ?_; (with_reducible refine (spec_DrawAddIgniter.calls k _ _ l0 t414 t415 t418 _ ?side1 ?side2 A10.out).mono ?_); (case side1 => repeat (first | exact (Kd.C_below HR0.out HB.out) | (with_reducible refine Kd.C_alloc ?_ _) | (with_reducible refine Kd.C_drewN ?_ _) | (with_reducible refine Kd.C_drew ?_))); (case side2 => exact HC0.out); rintro e w32 ⟨v416, rfl, ho0, hb⟩; refine ⟨_, rfl, ?_⟩; have n0_ := Aside0.mk (Kd.R_elder' (by (with_reducible repeat (first | apply Kd.R_alloc | apply Kd.R_drewN | apply Kd.R_drew)); exact HO397.out) (Kd.R_base ho0) hb); have n1_ := Aside0.mk (Kd.R_elder' (by (with_reducible repeat (first | apply Kd.R_alloc | apply Kd.R_drewN | apply Kd.R_drew)); exact HO407.out) (Kd.R_base ho0) hb); have n2_ := Aside0.mk (Kd.R_lower (Kd.R_new' (Kd.R_new' ho0 (Kd.R_lt (by (with_reducible repeat (first | apply Kd.R_alloc | apply Kd.R_drewN | apply Kd.R_drew)); exact HO397.out))) (Kd.R_lt (by (with_reducible repeat (first | apply Kd.R_alloc | apply Kd.R_drewN | apply Kd.R_drew)); exact HO407.out))) (below_size (by repeat (first | (with_reducible first | exact HB.out | apply below_alloc | apply pw_below_drewN | apply below_drew1 | refine below_set ?_ GE399.out | refine below_set ?_ GE409.out) | exact HB.out)))); have n3_ := Aside0.mk (blk_below (g := gb399) (o := .cells #[.int .i64 t394, .slice Ao20 t395.length co20] 118 (0, 0)) (by (with_reducible repeat (first | refine blk_drewN ?_ _ | refine blk_drew ?_ | refine blk_alloc ?_ _)); exact BK399.out) hb); have n4_ := Aside0.mk (blk_below (g := gb409) (o := .cells #[.int .i64 t404, .slice Ao28 t405.length co28] 118 (0, 0)) (by (with_reducible repeat (first | refine blk_drewN ?_ _ | refine blk_drew ?_ | refine blk_alloc ?_ _)); exact BK409.out) hb); have n5_ := Aside0.mk (below_step (by repeat (first | (with_reducible first | exact HB.out | apply below_alloc | apply pw_below_drewN | apply below_drew1 | refine below_set ?_ GE399.out | refine below_set ?_ GE409.out) | exact HB.out)) hb); clear HO397; clear HO407; clear BK399; clear BK409; clear HB; have HO397 := n0_; have HO407 := n1_; have HO417 := n2_; have BK399 := n3_; have BK409 := n4_; have HB := n5_; clear n0_ n1_ n2_ n3_ n4_ n5_; (try clear hb); (try clear hb2); (try clear hk); (try clear hi); (try clear ho0)) | ((with_reducible refine gate_dst (N := 15) rfl ?_); refine box_event ?hg (N := 15) ?hd (cs := #[.int .i64 0, .slice none 0 0]) (t := 118) ?hr ?_; (case hd => rfl); (case hg => rfl); (case hr => first | (go_simp; done) | (go_simp; rfl)); intro gb419 hg w33 hbox hb; have n0_ := Aside0.mk (Kd.R_below (by (with_reducible repeat (first | apply Kd.R_alloc | apply Kd.R_drewN | apply Kd.R_drew)); exact HO397.out) hb); have n1_ := Aside0.mk (Kd.R_below (by (with_reducible repeat (first | apply Kd.R_alloc | apply Kd.R_drewN | apply Kd.R_drew)); exact HO407.out) hb); have n2_ := Aside0.mk (Kd.R_below (by (with_reducible repeat (first | apply Kd.R_alloc | apply Kd.R_drewN | apply Kd.R_drew)); exact HO417.out) hb); have n3_ := Aside0.mk (blk_below (g := gb399) (o := .cells #[.int .i64 t394, .slice Ao20 t395.length co20] 118 (0, 0)) (by (with_reducible repeat (first | refine blk_drewN ?_ _ | refine blk_drew ?_ | refine blk_alloc ?_ _)); exact BK399.out) hb); have n4_ := Aside0.mk (blk_below (g := gb409) (o := .cells #[.int .i64 t404, .slice Ao28 t405.length co28] 118 (0, 0)) (by (with_reducible repeat (first | refine blk_drewN ?_ _ | refine blk_drew ?_ | refine blk_alloc ?_ _)); exact BK409.out) hb); have n5_ := Aside0.mk (below_step (by repeat (first | (with_reducible first | exact HB.out | apply below_alloc | apply pw_below_drewN | apply below_drew1 | refine below_set ?_ GE399.out | refine below_set ?_ GE409.out) | exact HB.out)) hb); have n6_ := Aside0.mk (hbox); have n7_ := Aside0.mk ((by rw [hg]; exact (below_size (by repeat (first | (with_reducible first | exact HB.out | apply below_alloc | apply pw_below_drewN | apply below_drew1 | refine below_set ?_ GE399.out | refine below_set ?_ GE409.out) | exact HB.out))) : w.heap.size ≤ gb419)); have n8_ := Aside0.mk ((by rw [hg]; exact (below_size (by repeat (first | (with_reducible first | exact HB.out | apply below_alloc | apply pw_below_drewN | apply below_drew1 | refine below_set ?_ GE399.out | refine below_set ?_ GE409.out) | exact HB.out))) : w.heap.size ≤ gb419)); have n9_ := Aside0.mk ((by rw [hg]; exact Nat.ne_of_lt (blk_lt (g := gb399) (o := .cells #[.int .i64 t394, .slice Ao20 t395.length co20] 118 (0, 0)) (by (with_reducible repeat (first | refine blk_drewN ?_ _ | refine blk_drew ?_ | refine blk_alloc ?_ _)); exact BK399.out)) : gb399 ≠ gb419)); have n10_ := Aside0.mk ((by rw [hg]; exact Nat.ne_of_gt (blk_lt (g := gb399) (o := .cells #[.int .i64 t394, .slice Ao20 t395.length co20] 118 (0, 0)) (by (with_reducible repeat (first | refine blk_drewN ?_ _ | refine blk_drew ?_ | refine blk_alloc ?_ _)); exact BK399.out)) : gb419 ≠ gb399)); have n11_ := Aside0.mk ((by rw [hg]; exact Nat.ne_of_lt (blk_lt (g := gb409) (o := .cells #[.int .i64 t404, .slice Ao28 t405.length co28] 118 (0, 0)) (by (with_reducible repeat (first | refine blk_drewN ?_ _ | refine blk_drew ?_ | refine blk_alloc ?_ _)); exact BK409.out)) : gb409 ≠ gb419)); have n12_ := Aside0.mk ((by rw [hg]; exact Nat.ne_of_gt (blk_lt (g := gb409) (o := .cells #[.int .i64 t404, .slice Ao28 t405.length co28] 118 (0, 0)) (by (with_reducible repeat (first | refine blk_drewN ?_ _ | refine blk_drew ?_ | refine blk_alloc ?_ _)); exact BK409.out)) : gb419 ≠ gb409)); clear HO397; clear HO407; clear HO417; clear BK399; clear BK409; clear HB; have HO397 := n0_; have HO407 := n1_; have HO417 := n2_; have BK399 := n3_; have BK409 := n4_; have HB := n5_; have BK419 := n6_; have GW419 := n7_; have GE419 := n8_; have NB399_419 := n9_; have NB419_399 := n10_; have NB409_419 := n11_; have NB419_409 := n12_; clear n0_ n1_ n2_ n3_ n4_ n5_ n6_ n7_ n8_ n9_ n10_ n11_ n12_; clear hb hbox hg; have hnb34 := NB419_399.out; have hnc34 := NB399_419.out; have hnb35 := NB419_409.out; have hnc35 := NB409_419.out; have hcz36_0 : w33.cell? ⟨gb419, 0, none⟩ = some (.int .i64 0) := (blk_cell BK419.out 0).trans rfl; have hcz36_1 : w33.cell? ⟨gb419, 1, none⟩ = some (.slice none 0 0) := (blk_cell BK419.out 1).trans rfl; have hfz36_0 := blk_frozen BK419.out 0; have hfz36_1 := blk_frozen BK419.out 1; obtain ⟨Ao37, co37, eo37⟩ := Kd.R_slice HO417.out; subst eo37) | ((with_reducible refine gate_callee (f := 97) rfl ?_); refine goesL_ (some 90) rfl rfl Try.func97 (by kernel_rfl) rfl #[.agg #[.int .i64 t414, .slice Ao37 t415.length co37], .int .i64 t418] rfl (by (try simp only [List.map_toArray, List.map_cons, List.map_nil]); first | done | rfl | (simp only [List.length_drop, List.length_take]; rfl)) ?_; (with_reducible refine (impl_AddIgniter.calls k t414 _ _ t415 t418 t420 t421 t424 _ ?side1 ?side2 A11.out).mono ?_); (case side1 => refine (Kd.R_reads' (e := 2) (base := w.heap.size) (ok := fun k_ => ((True ∧ some k_ ≠ (.slice Ao20 t395.length co20 : Value).ownBlock) ∧ some k_ ≠ (.slice Ao28 t405.length co28 : Value).ownBlock)) (n := t415.length) (c := co37) ?_).2.2; exact (by (with_reducible repeat (first | apply Kd.R_alloc | apply Kd.R_drewN | apply Kd.R_drew)); exact (Kd.R_mono (Kd.R_far (p := ⟨gb419, 1, none⟩) (Kd.R_far (p := ⟨gb419, 0, none⟩) (Kd.R_types HO417.out BK419.out (by decide)) (fun _ hk => hk.2) (.int .i64 t414)) (fun _ hk => hk.2) (.slice Ao37 t415.length co37)) (fun _ h_ => h_.1)))); (case side2 => exact (Kd.R_reads' HO417.out).2.1); rintro e w38 ⟨v422, rfl, ho0, hb⟩; refine ⟨_, rfl, ?_⟩; have n0_ := Aside0.mk (Kd.R_elder' (by (with_reducible repeat (first | apply Kd.R_alloc | apply Kd.R_drewN | apply Kd.R_drew)); exact (Kd.R_mono (Kd.R_far (p := ⟨gb419, 1, none⟩) (Kd.R_far (p := ⟨gb419, 0, none⟩) (Kd.R_types HO397.out BK419.out (by decide)) (fun _ hk => hk.2) (.int .i64 t414)) (fun _ hk => hk.2) (.slice Ao37 t415.length co37)) (fun _ h_ => h_.1))) (Kd.R_base ho0) hb); have n1_ := Aside0.mk (Kd.R_elder' (by (with_reducible repeat (first | apply Kd.R_alloc | apply Kd.R_drewN | apply Kd.R_drew)); exact (Kd.R_mono (Kd.R_far (p := ⟨gb419, 1, none⟩) (Kd.R_far (p := ⟨gb419, 0, none⟩) (Kd.R_types HO407.out BK419.out (by decide)) (fun _ hk => hk.2) (.int .i64 t414)) (fun _ hk => hk.2) (.slice Ao37 t415.length co37)) (fun _ h_ => h_.1))) (Kd.R_base ho0) hb); have n2_ := Aside0.mk (Kd.R_elder' (by (with_reducible repeat (first | apply Kd.R_alloc | apply Kd.R_drewN | apply Kd.R_drew)); exact (Kd.R_mono (Kd.R_far (p := ⟨gb419, 1, none⟩) (Kd.R_far (p := ⟨gb419, 0, none⟩) (Kd.R_types HO417.out BK419.out (by decide)) (fun _ hk => hk.2) (.int .i64 t414)) (fun _ hk => hk.2) (.slice Ao37 t415.length co37)) (fun _ h_ => h_.1))) (Kd.R_base ho0) hb); have n3_ := Aside0.mk (Kd.R_lower (Kd.R_new' (Kd.R_new' (Kd.R_new' ho0 (Kd.R_lt (by (with_reducible repeat (first | apply Kd.R_alloc | apply Kd.R_drewN | apply Kd.R_drew)); exact (Kd.R_mono (Kd.R_far (p := ⟨gb419, 1, none⟩) (Kd.R_far (p := ⟨gb419, 0, none⟩) (Kd.R_types HO397.out BK419.out (by decide)) (fun _ hk => hk.2) (.int .i64 t414)) (fun _ hk => hk.2) (.slice Ao37 t415.length co37)) (fun _ h_ => h_.1))))) (Kd.R_lt (by (with_reducible repeat (first | apply Kd.R_alloc | apply Kd.R_drewN | apply Kd.R_drew)); exact (Kd.R_mono (Kd.R_far (p := ⟨gb419, 1, none⟩) (Kd.R_far (p := ⟨gb419, 0, none⟩) (Kd.R_types HO407.out BK419.out (by decide)) (fun _ hk => hk.2) (.int .i64 t414)) (fun _ hk => hk.2) (.slice Ao37 t415.length co37)) (fun _ h_ => h_.1))))) (Kd.R_lt (by (with_reducible repeat (first | apply Kd.R_alloc | apply Kd.R_drewN | apply Kd.R_drew)); exact (Kd.R_mono (Kd.R_far (p := ⟨gb419, 1, none⟩) (Kd.R_far (p := ⟨gb419, 0, none⟩) (Kd.R_types HO417.out BK419.out (by decide)) (fun _ hk => hk.2) (.int .i64 t414)) (fun _ hk => hk.2) (.slice Ao37 t415.length co37)) (fun _ h_ => h_.1))))) (below_size (by repeat (first | (with_reducible first | exact HB.out | apply below_alloc | apply pw_below_drewN | apply below_drew1 | refine below_set ?_ GE399.out | refine below_set ?_ GE409.out | refine below_set ?_ GE419.out) | exact HB.out)))); have n4_ := Aside0.mk (blk_below (g := gb399) (o := .cells #[.int .i64 t394, .slice Ao20 t395.length co20] 118 (0, 0)) (by (with_reducible repeat (first | refine blk_drewN ?_ _ | refine blk_drew ?_ | refine blk_alloc ?_ _)); refine blk_far ?_ NB399_419.out _; (with_reducible repeat (first | refine blk_drewN ?_ _ | refine blk_drew ?_ | refine blk_alloc ?_ _)); refine blk_far ?_ NB399_419.out _; (with_reducible repeat (first | refine blk_drewN ?_ _ | refine blk_drew ?_ | refine blk_alloc ?_ _)); exact BK399.out) hb); have n5_ := Aside0.mk (blk_below (g := gb409) (o := .cells #[.int .i64 t404, .slice Ao28 t405.length co28] 118 (0, 0)) (by (with_reducible repeat (first | refine blk_drewN ?_ _ | refine blk_drew ?_ | refine blk_alloc ?_ _)); refine blk_far ?_ NB409_419.out _; (with_reducible repeat (first | refine blk_drewN ?_ _ | refine blk_drew ?_ | refine blk_alloc ?_ _)); refine blk_far ?_ NB409_419.out _; (with_reducible repeat (first | refine blk_drewN ?_ _ | refine blk_drew ?_ | refine blk_alloc ?_ _)); exact BK409.out) hb); have n6_ := Aside0.mk (blk_below (g := gb419) (o := .cells #[.int .i64 t414, .slice Ao37 t415.length co37] 118 (0, 0)) (by (with_reducible repeat (first | refine blk_drewN ?_ _ | refine blk_drew ?_ | refine blk_alloc ?_ _)); refine blk_put (cs := #[.int .i64 t414, .slice none 0 0]) ?_ 1 _ rfl; (with_reducible repeat (first | refine blk_drewN ?_ _ | refine blk_drew ?_ | refine blk_alloc ?_ _)); refine blk_put (cs := #[.int .i64 0, .slice none 0 0]) ?_ 0 _ rfl; (with_reducible repeat (first | refine blk_drewN ?_ _ | refine blk_drew ?_ | refine blk_alloc ?_ _)); exact BK419.out) hb); have n7_ := Aside0.mk (below_step (by repeat (first | (with_reducible first | exact HB.out | apply below_alloc | apply pw_below_drewN | apply below_drew1 | refine below_set ?_ GE399.out | refine below_set ?_ GE409.out | refine below_set ?_ GE419.out) | exact HB.out)) hb); clear HO397; clear HO407; clear HO417; clear BK399; clear BK409; clear BK419; clear HB; have HO397 := n0_; have HO407 := n1_; have HO417 := n2_; have HO423 := n3_; have BK399 := n4_; have BK409 := n5_; have BK419 := n6_; have HB := n7_; clear n0_ n1_ n2_ n3_ n4_ n5_ n6_ n7_; (try clear hb); (try clear hb2); (try clear hk); (try clear hi); (try clear ho0)) | ((with_reducible refine gate_dst (N := 17) rfl ?_); refine box_event ?hg (N := 17) ?hd (cs := #[.int .i64 0, .slice none 0 0]) (t := 118) ?hr ?_; (case hd => rfl); (case hg => rfl); (case hr => first | (go_simp; done) | (go_simp; rfl)); intro gb425 hg w39 hbox hb; have n0_ := Aside0.mk (Kd.R_below (by (with_reducible repeat (first | apply Kd.R_alloc | apply Kd.R_drewN | apply Kd.R_drew)); exact HO397.out) hb); have n1_ := Aside0.mk (Kd.R_below (by (with_reducible repeat (first | apply Kd.R_alloc | apply Kd.R_drewN | apply Kd.R_drew)); exact HO407.out) hb); have n2_ := Aside0.mk (Kd.R_below (by (with_reducible repeat (first | apply Kd.R_alloc | apply Kd.R_drewN | apply Kd.R_drew)); exact HO417.out) hb); have n3_ := Aside0.mk (Kd.R_below (by (with_reducible repeat (first | apply Kd.R_alloc | apply Kd.R_drewN | apply Kd.R_drew)); exact HO423.out) hb); have n4_ := Aside0.mk (blk_below (g := gb399) (o := .cells #[.int .i64 t394, .slice Ao20 t395.length co20] 118 (0, 0)) (by (with_reducible repeat (first | refine blk_drewN ?_ _ | refine blk_drew ?_ | refine blk_alloc ?_ _)); exact BK399.out) hb); have n5_ := Aside0.mk (blk_below (g := gb409) (o := .cells #[.int .i64 t404, .slice Ao28 t405.length co28] 118 (0, 0)) (by (with_reducible repeat (first | refine blk_drewN ?_ _ | refine blk_drew ?_ | refine blk_alloc ?_ _)); exact BK409.out) hb); have n6_ := Aside0.mk (blk_below (g := gb419) (o := .cells #[.int .i64 t414, .slice Ao37 t415.length co37] 118 (0, 0)) (by (with_reducible repeat (first | refine blk_drewN ?_ _ | refine blk_drew ?_ | refine blk_alloc ?_ _)); exact BK419.out) hb); have n7_ := Aside0.mk (below_step (by repeat (first | (with_reducible first | exact HB.out | apply below_alloc | apply pw_below_drewN | apply below_drew1 | refine below_set ?_ GE399.out | refine below_set ?_ GE409.out | refine below_set ?_ GE419.out) | exact HB.out)) hb); have n8_ := Aside0.mk (hbox); have n9_ := Aside0.mk ((by rw [hg]; exact (below_size (by repeat (first | (with_reducible first | exact HB.out | apply below_alloc | apply pw_below_drewN | apply below_drew1 | refine below_set ?_ GE399.out | refine below_set ?_ GE409.out | refine below_set ?_ GE419.out) | exact HB.out))) : w.heap.size ≤ gb425)); have n10_ := Aside0.mk ((by rw [hg]; exact (below_size (by repeat (first | (with_reducible first | exact HB.out | apply below_alloc | apply pw_below_drewN | apply below_drew1 | refine below_set ?_ GE399.out | refine below_set ?_ GE409.out | refine below_set ?_ GE419.out) | exact HB.out))) : w.heap.size ≤ gb425)); have n11_ := Aside0.mk ((by rw [hg]; exact Nat.ne_of_lt (blk_lt (g := gb399) (o := .cells #[.int .i64 t394, .slice Ao20 t395.length co20] 118 (0, 0)) (by (with_reducible repeat (first | refine blk_drewN ?_ _ | refine blk_drew ?_ | refine blk_alloc ?_ _)); exact BK399.out)) : gb399 ≠ gb425)); have n12_ := Aside0.mk ((by rw [hg]; exact Nat.ne_of_gt (blk_lt (g := gb399) (o := .cells #[.int .i64 t394, .slice Ao20 t395.length co20] 118 (0, 0)) (by (with_reducible repeat (first | refine blk_drewN ?_ _ | refine blk_drew ?_ | refine blk_alloc ?_ _)); exact BK399.out)) : gb425 ≠ gb399)); have n13_ := Aside0.mk ((by rw [hg]; exact Nat.ne_of_lt (blk_lt (g := gb409) (o := .cells #[.int .i64 t404, .slice Ao28 t405.length co28] 118 (0, 0)) (by (with_reducible repeat (first | refine blk_drewN ?_ _ | refine blk_drew ?_ | refine blk_alloc ?_ _)); exact BK409.out)) : gb409 ≠ gb425)); have n14_ := Aside0.mk ((by rw [hg]; exact Nat.ne_of_gt (blk_lt (g := gb409) (o := .cells #[.int .i64 t404, .slice Ao28 t405.length co28] 118 (0, 0)) (by (with_reducible repeat (first | refine blk_drewN ?_ _ | refine blk_drew ?_ | refine blk_alloc ?_ _)); exact BK409.out)) : gb425 ≠ gb409)); have n15_ := Aside0.mk ((by rw [hg]; exact Nat.ne_of_lt (blk_lt (g := gb419) (o := .cells #[.int .i64 t414, .slice Ao37 t415.length co37] 118 (0, 0)) (by (with_reducible repeat (first | refine blk_drewN ?_ _ | refine blk_drew ?_ | refine blk_alloc ?_ _)); exact BK419.out)) : gb419 ≠ gb425)); have n16_ := Aside0.mk ((by rw [hg]; exact Nat.ne_of_gt (blk_lt (g := gb419) (o := .cells #[.int .i64 t414, .slice Ao37 t415.length co37] 118 (0, 0)) (by (with_reducible repeat (first | refine blk_drewN ?_ _ | refine blk_drew ?_ | refine blk_alloc ?_ _)); exact BK419.out)) : gb425 ≠ gb419)); clear HO397; clear HO407; clear HO417; clear HO423; clear BK399; clear BK409; clear BK419; clear HB; have HO397 := n0_; have HO407 := n1_; have HO417 := n2_; have HO423 := n3_; have BK399 := n4_; have BK409 := n5_; have BK419 := n6_; have HB := n7_; have BK425 := n8_; have GW425 := n9_; have GE425 := n10_; have NB399_425 := n11_; have NB425_399 := n12_; have NB409_425 := n13_; have NB425_409 := n14_; have NB419_425 := n15_; have NB425_419 := n16_; clear n0_ n1_ n2_ n3_ n4_ n5_ n6_ n7_ n8_ n9_ n10_ n11_ n12_ n13_ n14_ n15_ n16_; clear hb hbox hg; have hnb40 := NB425_399.out; have hnc40 := NB399_425.out; have hnb41 := NB425_409.out; have hnc41 := NB409_425.out; have hnb42 := NB425_419.out; have hnc42 := NB419_425.out; have hcz43_0 : w39.cell? ⟨gb425, 0, none⟩ = some (.int .i64 0) := (blk_cell BK425.out 0).trans rfl; have hcz43_1 : w39.cell? ⟨gb425, 1, none⟩ = some (.slice none 0 0) := (blk_cell BK425.out 1).trans rfl; have hfz43_0 := blk_frozen BK425.out 0; have hfz43_1 := blk_frozen BK425.out 1; obtain ⟨Ao44, co44, eo44⟩ := Kd.R_slice HO423.out; subst eo44; have hcz45_0 : w39.cell? ⟨gb419, 0, none⟩ = some (.int .i64 t414) := (blk_cell BK419.out 0).trans rfl; have hcz45_1 : w39.cell? ⟨gb419, 1, none⟩ = some (.slice Ao37 t415.length co37) := (blk_cell BK419.out 1).trans rfl; have hfz45_0 := blk_frozen BK419.out 0; have hfz45_1 := blk_frozen BK419.out 1) | ((with_reducible refine gate_callee (f := 98) rfl ?_); refine goesL_ (some 96) rfl rfl Try.func98 (by kernel_rfl) rfl #[.agg #[.int .i64 t414, .slice Ao37 t415.length co37], .int .i64 t418] rfl (by (try simp only [List.map_toArray, List.map_cons, List.map_nil]); first | done | rfl | (simp only [List.length_drop, List.length_take]; rfl)) ?_; (with_reducible refine (spec_AddIgniter.calls k t414 _ _ t415 t418 t426 t427 t430 _ ?side1 ?side2 A12.out).mono ?_); (case side1 => refine (Kd.R_reads' (e := 2) (base := w.heap.size) (ok := fun k_ => (((True ∧ some k_ ≠ (.slice Ao20 t395.length co20 : Value).ownBlock) ∧ some k_ ≠ (.slice Ao28 t405.length co28 : Value).ownBlock) ∧ some k_ ≠ (.slice Ao44 t421.length co44 : Value).ownBlock)) (n := t415.length) (c := co37) ?_).2.2; exact (by (with_reducible repeat (first | apply Kd.R_alloc | apply Kd.R_drewN | apply Kd.R_drew)); exact (Kd.R_mono (Kd.R_far (p := ⟨gb425, 1, none⟩) (Kd.R_far (p := ⟨gb425, 0, none⟩) (Kd.R_types HO417.out BK425.out (by decide)) (fun _ hk => hk.2) (.int .i64 t420)) (fun _ hk => hk.2) (.slice Ao44 t421.length co44)) (fun _ h_ => h_.1)))); (case side2 => exact (Kd.R_reads' HO417.out).2.1); rintro e w46 ⟨v428, rfl, ho0, hb⟩; refine ⟨_, rfl, ?_⟩; have n0_ := Aside0.mk (Kd.R_elder' (by (with_reducible repeat (first | apply Kd.R_alloc | apply Kd.R_drewN | apply Kd.R_drew)); exact (Kd.R_mono (Kd.R_far (p := ⟨gb425, 1, none⟩) (Kd.R_far (p := ⟨gb425, 0, none⟩) (Kd.R_types HO397.out BK425.out (by decide)) (fun _ hk => hk.2) (.int .i64 t420)) (fun _ hk => hk.2) (.slice Ao44 t421.length co44)) (fun _ h_ => h_.1))) (Kd.R_base ho0) hb); have n1_ := Aside0.mk (Kd.R_elder' (by (with_reducible repeat (first | apply Kd.R_alloc | apply Kd.R_drewN | apply Kd.R_drew)); exact (Kd.R_mono (Kd.R_far (p := ⟨gb425, 1, none⟩) (Kd.R_far (p := ⟨gb425, 0, none⟩) (Kd.R_types HO407.out BK425.out (by decide)) (fun _ hk => hk.2) (.int .i64 t420)) (fun _ hk => hk.2) (.slice Ao44 t421.length co44)) (fun _ h_ => h_.1))) (Kd.R_base ho0) hb); have n2_ := Aside0.mk (Kd.R_elder' (by (with_reducible repeat (first | apply Kd.R_alloc | apply Kd.R_drewN | apply Kd.R_drew)); exact (Kd.R_mono (Kd.R_far (p := ⟨gb425, 1, none⟩) (Kd.R_far (p := ⟨gb425, 0, none⟩) (Kd.R_types HO417.out BK425.out (by decide)) (fun _ hk => hk.2) (.int .i64 t420)) (fun _ hk => hk.2) (.slice Ao44 t421.length co44)) (fun _ h_ => h_.1))) (Kd.R_base ho0) hb); have n3_ := Aside0.mk (Kd.R_elder' (by (with_reducible repeat (first | apply Kd.R_alloc | apply Kd.R_drewN | apply Kd.R_drew)); exact (Kd.R_mono (Kd.R_far (p := ⟨gb425, 1, none⟩) (Kd.R_far (p := ⟨gb425, 0, none⟩) (Kd.R_types HO423.out BK425.out (by decide)) (fun _ hk => hk.2) (.int .i64 t420)) (fun _ hk => hk.2) (.slice Ao44 t421.length co44)) (fun _ h_ => h_.1))) (Kd.R_base ho0) hb); have n4_ := Aside0.mk (Kd.R_lower (Kd.R_new' (Kd.R_new' (Kd.R_new' (Kd.R_new' ho0 (Kd.R_lt (by (with_reducible repeat (first | apply Kd.R_alloc | apply Kd.R_drewN | apply Kd.R_drew)); exact (Kd.R_mono (Kd.R_far (p := ⟨gb425, 1, none⟩) (Kd.R_far (p := ⟨gb425, 0, none⟩) (Kd.R_types HO397.out BK425.out (by decide)) (fun _ hk => hk.2) (.int .i64 t420)) (fun _ hk => hk.2) (.slice Ao44 t421.length co44)) (fun _ h_ => h_.1))))) (Kd.R_lt (by (with_reducible repeat (first | apply Kd.R_alloc | apply Kd.R_drewN | apply Kd.R_drew)); exact (Kd.R_mono (Kd.R_far (p := ⟨gb425, 1, none⟩) (Kd.R_far (p := ⟨gb425, 0, none⟩) (Kd.R_types HO407.out BK425.out (by decide)) (fun _ hk => hk.2) (.int .i64 t420)) (fun _ hk => hk.2) (.slice Ao44 t421.length co44)) (fun _ h_ => h_.1))))) (Kd.R_lt (by (with_reducible repeat (first | apply Kd.R_alloc | apply Kd.R_drewN | apply Kd.R_drew)); exact (Kd.R_mono (Kd.R_far (p := ⟨gb425, 1, none⟩) (Kd.R_far (p := ⟨gb425, 0, none⟩) (Kd.R_types HO417.out BK425.out (by decide)) (fun _ hk => hk.2) (.int .i64 t420)) (fun _ hk => hk.2) (.slice Ao44 t421.length co44)) (fun _ h_ => h_.1))))) (Kd.R_lt (by (with_reducible repeat (first | apply Kd.R_alloc | apply Kd.R_drewN | apply Kd.R_drew)); exact (Kd.R_mono (Kd.R_far (p := ⟨gb425, 1, none⟩) (Kd.R_far (p := ⟨gb425, 0, none⟩) (Kd.R_types HO423.out BK425.out (by decide)) (fun _ hk => hk.2) (.int .i64 t420)) (fun _ hk => hk.2) (.slice Ao44 t421.length co44)) (fun _ h_ => h_.1))))) (below_size (by repeat (first | (with_reducible first | exact HB.out | apply below_alloc | apply pw_below_drewN | apply below_drew1 | refine below_set ?_ GE399.out | refine below_set ?_ GE409.out | refine below_set ?_ GE419.out | refine below_set ?_ GE425.out) | exact HB.out)))); have n5_ := Aside0.mk (blk_below (g := gb399) (o := .cells #[.int .i64 t394, .slice Ao20 t395.length co20] 118 (0, 0)) (by (with_reducible repeat (first | refine blk_drewN ?_ _ | refine blk_drew ?_ | refine blk_alloc ?_ _)); refine blk_far ?_ NB399_425.out _; (with_reducible repeat (first | refine blk_drewN ?_ _ | refine blk_drew ?_ | refine blk_alloc ?_ _)); refine blk_far ?_ NB399_425.out _; (with_reducible repeat (first | refine blk_drewN ?_ _ | refine blk_drew ?_ | refine blk_alloc ?_ _)); exact BK399.out) hb); have n6_ := Aside0.mk (blk_below (g := gb409) (o := .cells #[.int .i64 t404, .slice Ao28 t405.length co28] 118 (0, 0)) (by (with_reducible repeat (first | refine blk_drewN ?_ _ | refine blk_drew ?_ | refine blk_alloc ?_ _)); refine blk_far ?_ NB409_425.out _; (with_reducible repeat (first | refine blk_drewN ?_ _ | refine blk_drew ?_ | refine blk_alloc ?_ _)); refine blk_far ?_ NB409_425.out _; (with_reducible repeat (first | refine blk_drewN ?_ _ | refine blk_drew ?_ | refine blk_alloc ?_ _)); exact BK409.out) hb); have n7_ := Aside0.mk (blk_below (g := gb419) (o := .cells #[.int .i64 t414, .slice Ao37 t415.length co37] 118 (0, 0)) (by (with_reducible repeat (first | refine blk_drewN ?_ _ | refine blk_drew ?_ | refine blk_alloc ?_ _)); refine blk_far ?_ NB419_425.out _; (with_reducible repeat (first | refine blk_drewN ?_ _ | refine blk_drew ?_ | refine blk_alloc ?_ _)); refine blk_far ?_ NB419_425.out _; (with_reducible repeat (first | refine blk_drewN ?_ _ | refine blk_drew ?_ | refine blk_alloc ?_ _)); exact BK419.out) hb); have n8_ := Aside0.mk (blk_below (g := gb425) (o := .cells #[.int .i64 t420, .slice Ao44 t421.length co44] 118 (0, 0)) (by (with_reducible repeat (first | refine blk_drewN ?_ _ | refine blk_drew ?_ | refine blk_alloc ?_ _)); refine blk_put (cs := #[.int .i64 t420, .slice none 0 0]) ?_ 1 _ rfl; (with_reducible repeat (first | refine blk_drewN ?_ _ | refine blk_drew ?_ | refine blk_alloc ?_ _)); refine blk_put (cs := #[.int .i64 0, .slice none 0 0]) ?_ 0 _ rfl; (with_reducible repeat (first | refine blk_drewN ?_ _ | refine blk_drew ?_ | refine blk_alloc ?_ _)); exact BK425.out) hb); have n9_ := Aside0.mk (below_step (by repeat (first | (with_reducible first | exact HB.out | apply below_alloc | apply pw_below_drewN | apply below_drew1 | refine below_set ?_ GE399.out | refine below_set ?_ GE409.out | refine below_set ?_ GE419.out | refine below_set ?_ GE425.out) | exact HB.out)) hb); clear HO397; clear HO407; clear HO417; clear HO423; clear BK399; clear BK409; clear BK419; clear BK425; clear HB; have HO397 := n0_; have HO407 := n1_; have HO417 := n2_; have HO423 := n3_; have HO429 := n4_; have BK399 := n5_; have BK409 := n6_; have BK419 := n7_; have BK425 := n8_; have HB := n9_; clear n0_ n1_ n2_ n3_ n4_ n5_ n6_ n7_ n8_ n9_; (try clear hb); (try clear hb2); (try clear hk); (try clear hi); (try clear ho0)) | ((with_reducible refine gate_dst (N := 19) rfl ?_); refine box_event ?hg (N := 19) ?hd (cs := #[.int .i64 0, .slice none 0 0]) (t := 118) ?hr ?_; (case hd => rfl); (case hg => rfl); (case hr => first | (go_simp; done) | (go_simp; rfl)); intro gb431 hg w47 hbox hb; have n0_ := Aside0.mk (Kd.R_below (by (with_reducible repeat (first | apply Kd.R_alloc | apply Kd.R_drewN | apply Kd.R_drew)); exact HO397.out) hb); have n1_ := Aside0.mk (Kd.R_below (by (with_reducible repeat (first | apply Kd.R_alloc | apply Kd.R_drewN | apply Kd.R_drew)); exact HO407.out) hb); have n2_ := Aside0.mk (Kd.R_below (by (with_reducible repeat (first | apply Kd.R_alloc | apply Kd.R_drewN | apply Kd.R_drew)); exact HO417.out) hb); have n3_ := Aside0.mk (Kd.R_below (by (with_reducible repeat (first | apply Kd.R_alloc | apply Kd.R_drewN | apply Kd.R_drew)); exact HO423.out) hb); have n4_ := Aside0.mk (Kd.R_below (by (with_reducible repeat (first | apply Kd.R_alloc | apply Kd.R_drewN | apply Kd.R_drew)); exact HO429.out) hb); have n5_ := Aside0.mk (blk_below (g := gb399) (o := .cells #[.int .i64 t394, .slice Ao20 t395.length co20] 118 (0, 0)) (by (with_reducible repeat (first | refine blk_drewN ?_ _ | refine blk_drew ?_ | refine blk_alloc ?_ _)); exact BK399.out) hb); have n6_ := Aside0.mk (blk_below (g := gb409) (o := .cells #[.int .i64 t404, .slice Ao28 t405.length co28] 118 (0, 0)) (by (with_reducible repeat (first | refine blk_drewN ?_ _ | refine blk_drew ?_ | refine blk_alloc ?_ _)); exact BK409.out) hb); have n7_ := Aside0.mk (blk_below (g := gb419) (o := .cells #[.int .i64 t414, .slice Ao37 t415.length co37] 118 (0, 0)) (by (with_reducible repeat (first | refine blk_drewN ?_ _ | refine blk_drew ?_ | refine blk_alloc ?_ _)); exact BK419.out) hb); have n8_ := Aside0.mk (blk_below (g := gb425) (o := .cells #[.int .i64 t420, .slice Ao44 t421.length co44] 118 (0, 0)) (by (with_reducible repeat (first | refine blk_drewN ?_ _ | refine blk_drew ?_ | refine blk_alloc ?_ _)); exact BK425.out) hb); have n9_ := Aside0.mk (below_step (by repeat (first | (with_reducible first | exact HB.out | apply below_alloc | apply pw_below_drewN | apply below_drew1 | refine below_set ?_ GE399.out | refine below_set ?_ GE409.out | refine below_set ?_ GE419.out | refine below_set ?_ GE425.out) | exact HB.out)) hb); have n10_ := Aside0.mk (hbox); have n11_ := Aside0.mk ((by rw [hg]; exact (below_size (by repeat (first | (with_reducible first | exact HB.out | apply below_alloc | apply pw_below_drewN | apply below_drew1 | refine below_set ?_ GE399.out | refine below_set ?_ GE409.out | refine below_set ?_ GE419.out | refine below_set ?_ GE425.out) | exact HB.out))) : w.heap.size ≤ gb431)); have n12_ := Aside0.mk ((by rw [hg]; exact (below_size (by repeat (first | (with_reducible first | exact HB.out | apply below_alloc | apply pw_below_drewN | apply below_drew1 | refine below_set ?_ GE399.out | refine below_set ?_ GE409.out | refine below_set ?_ GE419.out | refine below_set ?_ GE425.out) | exact HB.out))) : w.heap.size ≤ gb431)); have n13_ := Aside0.mk ((by rw [hg]; exact Nat.ne_of_lt (blk_lt (g := gb399) (o := .cells #[.int .i64 t394, .slice Ao20 t395.length co20] 118 (0, 0)) (by (with_reducible repeat (first | refine blk_drewN ?_ _ | refine blk_drew ?_ | refine blk_alloc ?_ _)); exact BK399.out)) : gb399 ≠ gb431)); have n14_ := Aside0.mk ((by rw [hg]; exact Nat.ne_of_gt (blk_lt (g := gb399) (o := .cells #[.int .i64 t394, .slice Ao20 t395.length co20] 118 (0, 0)) (by (with_reducible repeat (first | refine blk_drewN ?_ _ | refine blk_drew ?_ | refine blk_alloc ?_ _)); exact BK399.out)) : gb431 ≠ gb399)); have n15_ := Aside0.mk ((by rw [hg]; exact Nat.ne_of_lt (blk_lt (g := gb409) (o := .cells #[.int .i64 t404, .slice Ao28 t405.length co28] 118 (0, 0)) (by (with_reducible repeat (first | refine blk_drewN ?_ _ | refine blk_drew ?_ | refine blk_alloc ?_ _)); exact BK409.out)) : gb409 ≠ gb431)); have n16_ := Aside0.mk ((by rw [hg]; exact Nat.ne_of_gt (blk_lt (g := gb409) (o := .cells #[.int .i64 t404, .slice Ao28 t405.length co28] 118 (0, 0)) (by (with_reducible repeat (first | refine blk_drewN ?_ _ | refine blk_drew ?_ | refine blk_alloc ?_ _)); exact BK409.out)) : gb431 ≠ gb409)); have n17_ := Aside0.mk ((by rw [hg]; exact Nat.ne_of_lt (blk_lt (g := gb419) (o := .cells #[.int .i64 t414, .slice Ao37 t415.length co37] 118 (0, 0)) (by (with_reducible repeat (first | refine blk_drewN ?_ _ | refine blk_drew ?_ | refine blk_alloc ?_ _)); exact BK419.out)) : gb419 ≠ gb431)); have n18_ := Aside0.mk ((by rw [hg]; exact Nat.ne_of_gt (blk_lt (g := gb419) (o := .cells #[.int .i64 t414, .slice Ao37 t415.length co37] 118 (0, 0)) (by (with_reducible repeat (first | refine blk_drewN ?_ _ | refine blk_drew ?_ | refine blk_alloc ?_ _)); exact BK419.out)) : gb431 ≠ gb419)); have n19_ := Aside0.mk ((by rw [hg]; exact Nat.ne_of_lt (blk_lt (g := gb425) (o := .cells #[.int .i64 t420, .slice Ao44 t421.length co44] 118 (0, 0)) (by (with_reducible repeat (first | refine blk_drewN ?_ _ | refine blk_drew ?_ | refine blk_alloc ?_ _)); exact BK425.out)) : gb425 ≠ gb431)); have n20_ := Aside0.mk ((by rw [hg]; exact Nat.ne_of_gt (blk_lt (g := gb425) (o := .cells #[.int .i64 t420, .slice Ao44 t421.length co44] 118 (0, 0)) (by (with_reducible repeat (first | refine blk_drewN ?_ _ | refine blk_drew ?_ | refine blk_alloc ?_ _)); exact BK425.out)) : gb431 ≠ gb425)); clear HO397; clear HO407; clear HO417; clear HO423; clear HO429; clear BK399; clear BK409; clear BK419; clear BK425; clear HB; have HO397 := n0_; have HO407 := n1_; have HO417 := n2_; have HO423 := n3_; have HO429 := n4_; have BK399 := n5_; have BK409 := n6_; have BK419 := n7_; have BK425 := n8_; have HB := n9_; have BK431 := n10_; have GW431 := n11_; have GE431 := n12_; have NB399_431 := n13_; have NB431_399 := n14_; have NB409_431 := n15_; have NB431_409 := n16_; have NB419_431 := n17_; have NB431_419 := n18_; have NB425_431 := n19_; have NB431_425 := n20_; clear n0_ n1_ n2_ n3_ n4_ n5_ n6_ n7_ n8_ n9_ n10_ n11_ n12_ n13_ n14_ n15_ n16_ n17_ n18_ n19_ n20_; clear hb hbox hg; have hnb48 := NB431_399.out; have hnc48 := NB399_431.out; have hnb49 := NB431_409.out; have hnc49 := NB409_431.out; have hnb50 := NB431_419.out; have hnc50 := NB419_431.out; have hnb51 := NB431_425.out; have hnc51 := NB425_431.out; have hcz52_0 : w47.cell? ⟨gb431, 0, none⟩ = some (.int .i64 0) := (blk_cell BK431.out 0).trans rfl; have hcz52_1 : w47.cell? ⟨gb431, 1, none⟩ = some (.slice none 0 0) := (blk_cell BK431.out 1).trans rfl; have hfz52_0 := blk_frozen BK431.out 0; have hfz52_1 := blk_frozen BK431.out 1; obtain ⟨Ao53, co53, eo53⟩ := Kd.R_slice HO429.out; subst eo53) | ((with_reducible refine gate_callee (f := 99) rfl ?_); refine goesL_ (some 101) rfl rfl Try.func99 (by kernel_rfl) rfl #[.slice A0 l0.length c0] rfl (by (try simp only [List.map_toArray, List.map_cons, List.map_nil]); first | done | rfl | (simp only [List.length_drop, List.length_take]; rfl)) ?_; (with_reducible refine (spec_DrawMostIgniters.calls k _ _ l0 t432 t433 t434 t435 _ ?side1 ?side2 A13.out).mono ?_); (case side1 => exact Kd.C_below HR0.out (by repeat (first | (with_reducible first | exact HB.out | apply below_alloc | apply pw_below_drewN | apply below_drew1 | refine below_set ?_ GE399.out | refine below_set ?_ GE409.out | refine below_set ?_ GE419.out | refine below_set ?_ GE425.out | refine below_set ?_ GE431.out) | exact HB.out))); (case side2 => exact HC0.out); rintro e w54 ⟨rfl, hb⟩; refine ⟨_, rfl, ?_⟩; have n0_ := Aside0.mk (Kd.R_below (by (with_reducible repeat (first | apply Kd.R_alloc | apply Kd.R_drewN | apply Kd.R_drew)); exact (Kd.R_mono (Kd.R_far (p := ⟨gb431, 1, none⟩) (Kd.R_far (p := ⟨gb431, 0, none⟩) (Kd.R_types HO397.out BK431.out (by decide)) (fun _ hk => hk.2) (.int .i64 t426)) (fun _ hk => hk.2) (.slice Ao53 t427.length co53)) (fun _ h_ => h_.1))) hb); have n1_ := Aside0.mk (Kd.R_below (by (with_reducible repeat (first | apply Kd.R_alloc | apply Kd.R_drewN | apply Kd.R_drew)); exact (Kd.R_mono (Kd.R_far (p := ⟨gb431, 1, none⟩) (Kd.R_far (p := ⟨gb431, 0, none⟩) (Kd.R_types HO407.out BK431.out (by decide)) (fun _ hk => hk.2) (.int .i64 t426)) (fun _ hk => hk.2) (.slice Ao53 t427.length co53)) (fun _ h_ => h_.1))) hb); have n2_ := Aside0.mk (Kd.R_below (by (with_reducible repeat (first | apply Kd.R_alloc | apply Kd.R_drewN | apply Kd.R_drew)); exact (Kd.R_mono (Kd.R_far (p := ⟨gb431, 1, none⟩) (Kd.R_far (p := ⟨gb431, 0, none⟩) (Kd.R_types HO417.out BK431.out (by decide)) (fun _ hk => hk.2) (.int .i64 t426)) (fun _ hk => hk.2) (.slice Ao53 t427.length co53)) (fun _ h_ => h_.1))) hb); have n3_ := Aside0.mk (Kd.R_below (by (with_reducible repeat (first | apply Kd.R_alloc | apply Kd.R_drewN | apply Kd.R_drew)); exact (Kd.R_mono (Kd.R_far (p := ⟨gb431, 1, none⟩) (Kd.R_far (p := ⟨gb431, 0, none⟩) (Kd.R_types HO423.out BK431.out (by decide)) (fun _ hk => hk.2) (.int .i64 t426)) (fun _ hk => hk.2) (.slice Ao53 t427.length co53)) (fun _ h_ => h_.1))) hb); have n4_ := Aside0.mk (Kd.R_below (by (with_reducible repeat (first | apply Kd.R_alloc | apply Kd.R_drewN | apply Kd.R_drew)); exact (Kd.R_mono (Kd.R_far (p := ⟨gb431, 1, none⟩) (Kd.R_far (p := ⟨gb431, 0, none⟩) (Kd.R_types HO429.out BK431.out (by decide)) (fun _ hk => hk.2) (.int .i64 t426)) (fun _ hk => hk.2) (.slice Ao53 t427.length co53)) (fun _ h_ => h_.1))) hb); have n5_ := Aside0.mk (blk_below (g := gb399) (o := .cells #[.int .i64 t394, .slice Ao20 t395.length co20] 118 (0, 0)) (by (with_reducible repeat (first | refine blk_drewN ?_ _ | refine blk_drew ?_ | refine blk_alloc ?_ _)); refine blk_far ?_ NB399_431.out _; (with_reducible repeat (first | refine blk_drewN ?_ _ | refine blk_drew ?_ | refine blk_alloc ?_ _)); refine blk_far ?_ NB399_431.out _; (with_reducible repeat (first | refine blk_drewN ?_ _ | refine blk_drew ?_ | refine blk_alloc ?_ _)); exact BK399.out) hb); have n6_ := Aside0.mk (blk_below (g := gb409) (o := .cells #[.int .i64 t404, .slice Ao28 t405.length co28] 118 (0, 0)) (by (with_reducible repeat (first | refine blk_drewN ?_ _ | refine blk_drew ?_ | refine blk_alloc ?_ _)); refine blk_far ?_ NB409_431.out _; (with_reducible repeat (first | refine blk_drewN ?_ _ | refine blk_drew ?_ | refine blk_alloc ?_ _)); refine blk_far ?_ NB409_431.out _; (with_reducible repeat (first | refine blk_drewN ?_ _ | refine blk_drew ?_ | refine blk_alloc ?_ _)); exact BK409.out) hb); have n7_ := Aside0.mk (blk_below (g := gb419) (o := .cells #[.int .i64 t414, .slice Ao37 t415.length co37] 118 (0, 0)) (by (with_reducible repeat (first | refine blk_drewN ?_ _ | refine blk_drew ?_ | refine blk_alloc ?_ _)); refine blk_far ?_ NB419_431.out _; (with_reducible repeat (first | refine blk_drewN ?_ _ | refine blk_drew ?_ | refine blk_alloc ?_ _)); refine blk_far ?_ NB419_431.out _; (with_reducible repeat (first | refine blk_drewN ?_ _ | refine blk_drew ?_ | refine blk_alloc ?_ _)); exact BK419.out) hb); have n8_ := Aside0.mk (blk_below (g := gb425) (o := .cells #[.int .i64 t420, .slice Ao44 t421.length co44] 118 (0, 0)) (by (with_reducible repeat (first | refine blk_drewN ?_ _ | refine blk_drew ?_ | refine blk_alloc ?_ _)); refine blk_far ?_ NB425_431.out _; (with_reducible repeat (first | refine blk_drewN ?_ _ | refine blk_drew ?_ | refine blk_alloc ?_ _)); refine blk_far ?_ NB425_431.out _; (with_reducible repeat (first | refine blk_drewN ?_ _ | refine blk_drew ?_ | refine blk_alloc ?_ _)); exact BK425.out) hb); have n9_ := Aside0.mk (blk_below (g := gb431) (o := .cells #[.int .i64 t426, .slice Ao53 t427.length co53] 118 (0, 0)) (by (with_reducible repeat (first | refine blk_drewN ?_ _ | refine blk_drew ?_ | refine blk_alloc ?_ _)); refine blk_put (cs := #[.int .i64 t426, .slice none 0 0]) ?_ 1 _ rfl; (with_reducible repeat (first | refine blk_drewN ?_ _ | refine blk_drew ?_ | refine blk_alloc ?_ _)); refine blk_put (cs := #[.int .i64 0, .slice none 0 0]) ?_ 0 _ rfl; (with_reducible repeat (first | refine blk_drewN ?_ _ | refine blk_drew ?_ | refine blk_alloc ?_ _)); exact BK431.out) hb); have n10_ := Aside0.mk (below_step (by repeat (first | (with_reducible first | exact HB.out | apply below_alloc | apply pw_below_drewN | apply below_drew1 | refine below_set ?_ GE399.out | refine below_set ?_ GE409.out | refine below_set ?_ GE419.out | refine below_set ?_ GE425.out | refine below_set ?_ GE431.out) | exact HB.out)) hb); clear HO397; clear HO407; clear HO417; clear HO423; clear HO429; clear BK399; clear BK409; clear BK419; clear BK425; clear BK431; clear HB; have HO397 := n0_; have HO407 := n1_; have HO417 := n2_; have HO423 := n3_; have HO429 := n4_; have BK399 := n5_; have BK409 := n6_; have BK419 := n7_; have BK425 := n8_; have BK431 := n9_; have HB := n10_; clear n0_ n1_ n2_ n3_ n4_ n5_ n6_ n7_ n8_ n9_ n10_; (try clear hb); (try clear hb2); (try clear hk); (try clear hi)) | ((with_reducible refine gate_callee (f := 100) rfl ?_); refine goesL_ (some 111) rfl rfl Try.func100 (by kernel_rfl) rfl #[.int .i64 t432, .int .i64 t433, .int .i64 t434, .int .i64 t435] rfl (by (try simp only [List.map_toArray, List.map_cons, List.map_nil]); first | done | rfl | (simp only [List.length_drop, List.length_take]; rfl)) ?_; (with_reducible refine (impl_MostIgniters.calls k t432 t433 t434 t435 t436 t437 _ A14.out).mono ?_); rintro e w' ⟨rfl, ⟨nd, rfl⟩⟩; refine ⟨_, rfl, ?_⟩) | ((with_reducible refine gate_callee (f := 101) rfl ?_); refine goesL_ (some 119) rfl rfl Try.func101 (by kernel_rfl) rfl #[.int .i64 t432, .int .i64 t433, .int .i64 t434, .int .i64 t435] rfl (by (try simp only [List.map_toArray, List.map_cons, List.map_nil]); first | done | rfl | (simp only [List.length_drop, List.length_take]; rfl)) ?_; (with_reducible refine (spec_MostIgniters.calls k t432 t433 t434 t435 t438 t439 _ A15.out).mono ?_); rintro e w' ⟨rfl, ⟨nd, rfl⟩⟩; refine ⟨_, rfl, ?_⟩))
   (try simp only [Act.put, List.setIfInBounds_toArray, List.set_cons_zero, List.set_cons_succ])
   go_cut [160] (fun v160 wc => ∃ (kq : Nat) (x160_15 : Bool), v160 = .bool x160_15 ∧ Aside0 (laws_FnCurrents.j0 kq l0 t398 t400 t401 t418 t424 t432 t433 t434 t435 t437 t438 x160_15 t394 t395 t414 t415 t420 t421 = some r) ∧ Aside0 (kq ≤ k) ∧ Aside0 (Kd.R (Kd.int .i64) 2 wc w.heap.size (fun k_ => some k_ ≠ ((.slice Ao28 t405.length co28) : Value).ownBlock ∧ some k_ ≠ ((.slice Ao37 t415.length co37) : Value).ownBlock ∧ some k_ ≠ ((.slice Ao44 t421.length co44) : Value).ownBlock ∧ some k_ ≠ ((.slice Ao53 t427.length co53) : Value).ownBlock) (.slice Ao20 t395.length co20) t395) ∧ Aside0 (Kd.R (Kd.int .i64) 2 wc w.heap.size (fun k_ => some k_ ≠ ((.slice Ao20 t395.length co20) : Value).ownBlock ∧ some k_ ≠ ((.slice Ao37 t415.length co37) : Value).ownBlock ∧ some k_ ≠ ((.slice Ao44 t421.length co44) : Value).ownBlock ∧ some k_ ≠ ((.slice Ao53 t427.length co53) : Value).ownBlock) (.slice Ao28 t405.length co28) t405) ∧ Aside0 (Kd.R (Kd.int .i64) 2 wc w.heap.size (fun k_ => some k_ ≠ ((.slice Ao20 t395.length co20) : Value).ownBlock ∧ some k_ ≠ ((.slice Ao28 t405.length co28) : Value).ownBlock ∧ some k_ ≠ ((.slice Ao44 t421.length co44) : Value).ownBlock ∧ some k_ ≠ ((.slice Ao53 t427.length co53) : Value).ownBlock) (.slice Ao37 t415.length co37) t415) ∧ Aside0 (Kd.R (Kd.int .i64) 2 wc w.heap.size (fun k_ => some k_ ≠ ((.slice Ao20 t395.length co20) : Value).ownBlock ∧ some k_ ≠ ((.slice Ao28 t405.length co28) : Value).ownBlock ∧ some k_ ≠ ((.slice Ao37 t415.length co37) : Value).ownBlock ∧ some k_ ≠ ((.slice Ao53 t427.length co53) : Value).ownBlock) (.slice Ao44 t421.length co44) t421) ∧ Aside0 (Kd.R (Kd.int .i64) 2 wc w.heap.size (fun k_ => some k_ ≠ ((.slice Ao20 t395.length co20) : Value).ownBlock ∧ some k_ ≠ ((.slice Ao28 t405.length co28) : Value).ownBlock ∧ some k_ ≠ ((.slice Ao37 t415.length co37) : Value).ownBlock ∧ some k_ ≠ ((.slice Ao44 t421.length co44) : Value).ownBlock) (.slice Ao53 t427.length co53) t427) ∧ Aside0 (wc.heap[gb399]? = some (.cells #[.int .i64 t394, (.slice Ao20 t395.length co20)] 118 (0, 0))) ∧ Aside0 (wc.heap[gb409]? = some (.cells #[.int .i64 t404, (.slice Ao28 t405.length co28)] 118 (0, 0))) ∧ Aside0 (wc.heap[gb419]? = some (.cells #[.int .i64 t414, (.slice Ao37 t415.length co37)] 118 (0, 0))) ∧ Aside0 (wc.heap[gb425]? = some (.cells #[.int .i64 t420, (.slice Ao44 t421.length co44)] 118 (0, 0))) ∧ Aside0 (wc.heap[gb431]? = some (.cells #[.int .i64 t426, (.slice Ao53 t427.length co53)] 118 (0, 0))) ∧ Aside0 (Below w.heap.size w wc))
   case first =>
    as_aux_lemma =>
     have H := HC16.out
     clear HC16
     by_cases c55 : t401 = t403
     case neg =>
      rw [if_neg c55] at H
      have c55b0 : (t401 == t403) = false := beq_eq_false_iff_ne.mpr c55
      have c55b1 : (t401 != t403) = true := bne_iff_ne.mpr c55
      (first | rw [c55b0] | (simp only [i64_w, i32_w]; rw [c55b0]) | skip)
      exact absurd ((laws_FnCurrents.j0_true H).trans hT) (by decide)
     rw [if_pos c55] at H
     have c55b0 : (t401 == t403) = true := beq_iff_eq.mpr c55
     have c55b1 : (t401 != t403) = false := bne_eq_false_iff_eq.mpr c55
     clear c55
     (first | rw [c55b0] | (simp only [i64_w, i32_w]; rw [c55b0]) | skip)
     by_cases c56 : t400 = t402
     case neg =>
      rw [if_neg c56] at H
      have c56b0 : (t400 == t402) = false := beq_eq_false_iff_ne.mpr c56
      have c56b1 : (t400 != t402) = true := bne_iff_ne.mpr c56
      exact absurd ((laws_FnCurrents.j0_true H).trans hT) (by decide)
     rw [if_pos c56] at H
     have c56b0 : (t400 == t402) = true := beq_iff_eq.mpr c56
     have c56b1 : (t400 != t402) = false := bne_eq_false_iff_eq.mpr c56
     clear c56
     by_cases c57 : t411 = t413
     case neg =>
      rw [if_neg c57] at H
      have c57b0 : (t411 == t413) = false := beq_eq_false_iff_ne.mpr c57
      have c57b1 : (t411 != t413) = true := bne_iff_ne.mpr c57
      exact absurd ((laws_FnCurrents.j0_true H).trans hT) (by decide)
     rw [if_pos c57] at H
     have c57b0 : (t411 == t413) = true := beq_iff_eq.mpr c57
     have c57b1 : (t411 != t413) = false := bne_eq_false_iff_eq.mpr c57
     clear c57
     by_cases c58 : t410 = t412
     case neg =>
      rw [if_neg c58] at H
      have c58b0 : (t410 == t412) = false := beq_eq_false_iff_ne.mpr c58
      have c58b1 : (t410 != t412) = true := bne_iff_ne.mpr c58
      exact absurd ((laws_FnCurrents.j0_true H).trans hT) (by decide)
     rw [if_pos c58] at H
     have c58b0 : (t410 == t412) = true := beq_iff_eq.mpr c58
     have c58b1 : (t410 != t412) = false := bne_eq_false_iff_eq.mpr c58
     clear c58
     by_cases c59 : t424 = t430
     case neg =>
      rw [if_neg c59] at H
      have c59b0 : (t424 == t430) = false := beq_eq_false_iff_ne.mpr c59
      have c59b1 : (t424 != t430) = true := bne_iff_ne.mpr c59
      exact absurd ((laws_FnCurrents.j0_true H).trans hT) (by decide)
     rw [if_pos c59] at H
     have c59b0 : (t424 == t430) = true := beq_iff_eq.mpr c59
     have c59b1 : (t424 != t430) = false := bne_eq_false_iff_eq.mpr c59
     clear c59
     replace H := Option.bind_eq_some_iff.mp H
     obtain ⟨t440, A600, H⟩ := H
     replace H : (if t440 = true then (if t437 = t439 then (laws_FnCurrents.j0 k l0 t398 t400 t401 t418 t424 t432 t433 t434 t435 t437 t438 (t436 != t438) t394 t395 t414 t415 t420 t421) else (laws_FnCurrents.j0 k l0 t398 t400 t401 t418 t424 t432 t433 t434 t435 t437 t438 true t394 t395 t414 t415 t420 t421)) else (laws_FnCurrents.j0 k l0 t398 t400 t401 t418 t424 t432 t433 t434 t435 t437 t438 true t394 t395 t414 t415 t420 t421)) = some r := H
     have A60 := Aside0.mk A600
     clear A600
     by_cases c61 : t440 = true
     ·subst c61
      have H1 : (if t437 = t439 then (laws_FnCurrents.j0 k l0 t398 t400 t401 t418 t424 t432 t433 t434 t435 t437 t438 (t436 != t438) t394 t395 t414 t415 t420 t421) else (laws_FnCurrents.j0 k l0 t398 t400 t401 t418 t424 t432 t433 t434 t435 t437 t438 true t394 t395 t414 t415 t420 t421)) = some r := by rw [if_pos rfl] at H; exact H
      clear H
      have H := H1
      clear H1
      by_cases c62 : t437 = t439
      case neg =>
       rw [if_neg c62] at H
       have c62b0 : (t437 == t439) = false := beq_eq_false_iff_ne.mpr c62
       have c62b1 : (t437 != t439) = true := bne_iff_ne.mpr c62
       exact absurd ((laws_FnCurrents.j0_true H).trans hT) (by decide)
      rw [if_pos c62] at H
      have c62b0 : (t437 == t439) = true := beq_iff_eq.mpr c62
      have c62b1 : (t437 != t439) = false := bne_eq_false_iff_eq.mpr c62
      clear c62
      have H' := Aside0.mk H
      clear H
      have hnb63 := NB425_399.out
      have hnc63 := NB399_425.out
      have hnb64 := NB425_409.out
      have hnc64 := NB409_425.out
      have hnb65 := NB425_419.out
      have hnc65 := NB419_425.out
      have hnb66 := NB425_431.out
      have hnc66 := NB431_425.out
      have hcz67_0 : w54.cell? ⟨gb425, 0, none⟩ = some (.int .i64 t420) := (blk_cell BK425.out 0).trans rfl
      have hcz67_1 : w54.cell? ⟨gb425, 1, none⟩ = some (.slice Ao44 t421.length co44) := (blk_cell BK425.out 1).trans rfl
      have hfz67_0 := blk_frozen BK425.out 0
      have hfz67_1 := blk_frozen BK425.out 1
      have hnb68 := NB431_399.out
      have hnc68 := NB399_431.out
      have hnb69 := NB431_409.out
      have hnc69 := NB409_431.out
      have hnb70 := NB431_419.out
      have hnc70 := NB419_431.out
      have hcz71_0 : w54.cell? ⟨gb431, 0, none⟩ = some (.int .i64 t426) := (blk_cell BK431.out 0).trans rfl
      have hcz71_1 : w54.cell? ⟨gb431, 1, none⟩ = some (.slice Ao53 t427.length co53) := (blk_cell BK431.out 1).trans rfl
      have hfz71_0 := blk_frozen BK431.out 0
      have hfz71_1 := blk_frozen BK431.out 1
      go_wp2_with (first | (go_at_call 102; (with_reducible refine (laws_likeCircuit.calls k t420 _ _ t421 t426 _ _ t427 true _ ?side1 ?side2 ?side3 ?side4 A60.out).mono ?_); (case side1 => repeat (first | exact (Kd.R_reads' HO423.out).2.2 | (with_reducible refine Kd.C_alloc ?_ _) | (with_reducible refine Kd.C_drewN ?_ _) | (with_reducible refine Kd.C_drew ?_))); (case side2 => exact (Kd.R_reads' HO423.out).2.1); (case side3 => repeat (first | exact (Kd.R_reads' HO429.out).2.2 | (with_reducible refine Kd.C_alloc ?_ _) | (with_reducible refine Kd.C_drewN ?_ _) | (with_reducible refine Kd.C_drew ?_))); (case side4 => exact (Kd.R_reads' HO429.out).2.1); rintro e w72 ⟨rfl, hb⟩; have n0_ := Aside0.mk (Kd.R_below (by (with_reducible repeat (first | apply Kd.R_alloc | apply Kd.R_drewN | apply Kd.R_drew)); exact HO397.out) hb); have n1_ := Aside0.mk (Kd.R_below (by (with_reducible repeat (first | apply Kd.R_alloc | apply Kd.R_drewN | apply Kd.R_drew)); exact HO407.out) hb); have n2_ := Aside0.mk (Kd.R_below (by (with_reducible repeat (first | apply Kd.R_alloc | apply Kd.R_drewN | apply Kd.R_drew)); exact HO417.out) hb); have n3_ := Aside0.mk (Kd.R_below (by (with_reducible repeat (first | apply Kd.R_alloc | apply Kd.R_drewN | apply Kd.R_drew)); exact HO423.out) hb); have n4_ := Aside0.mk (Kd.R_below (by (with_reducible repeat (first | apply Kd.R_alloc | apply Kd.R_drewN | apply Kd.R_drew)); exact HO429.out) hb); have n5_ := Aside0.mk (blk_below (g := gb399) (o := .cells #[.int .i64 t394, .slice Ao20 t395.length co20] 118 (0, 0)) (by (with_reducible repeat (first | refine blk_drewN ?_ _ | refine blk_drew ?_ | refine blk_alloc ?_ _)); exact BK399.out) hb); have n6_ := Aside0.mk (blk_below (g := gb409) (o := .cells #[.int .i64 t404, .slice Ao28 t405.length co28] 118 (0, 0)) (by (with_reducible repeat (first | refine blk_drewN ?_ _ | refine blk_drew ?_ | refine blk_alloc ?_ _)); exact BK409.out) hb); have n7_ := Aside0.mk (blk_below (g := gb419) (o := .cells #[.int .i64 t414, .slice Ao37 t415.length co37] 118 (0, 0)) (by (with_reducible repeat (first | refine blk_drewN ?_ _ | refine blk_drew ?_ | refine blk_alloc ?_ _)); exact BK419.out) hb); have n8_ := Aside0.mk (blk_below (g := gb425) (o := .cells #[.int .i64 t420, .slice Ao44 t421.length co44] 118 (0, 0)) (by (with_reducible repeat (first | refine blk_drewN ?_ _ | refine blk_drew ?_ | refine blk_alloc ?_ _)); exact BK425.out) hb); have n9_ := Aside0.mk (blk_below (g := gb431) (o := .cells #[.int .i64 t426, .slice Ao53 t427.length co53] 118 (0, 0)) (by (with_reducible repeat (first | refine blk_drewN ?_ _ | refine blk_drew ?_ | refine blk_alloc ?_ _)); exact BK431.out) hb); have n10_ := Aside0.mk (below_step (by repeat (first | (with_reducible first | exact HB.out | apply below_alloc | apply pw_below_drewN | apply below_drew1 | refine below_set ?_ GE399.out | refine below_set ?_ GE409.out | refine below_set ?_ GE419.out | refine below_set ?_ GE425.out | refine below_set ?_ GE431.out) | exact HB.out)) hb); clear HO397; clear HO407; clear HO417; clear HO423; clear HO429; clear BK399; clear BK409; clear BK419; clear BK425; clear BK431; clear HB; have HO397 := n0_; have HO407 := n1_; have HO417 := n2_; have HO423 := n3_; have HO429 := n4_; have BK399 := n5_; have BK409 := n6_; have BK419 := n7_; have BK425 := n8_; have BK431 := n9_; have HB := n10_; clear n0_ n1_ n2_ n3_ n4_ n5_ n6_ n7_ n8_ n9_ n10_; (try clear hb); (try clear hb2); (try clear hk); (try clear hi)))
      go_meet
      case rel => exact ⟨_, ((t436 != t438)), (by first | rfl | (simp; done) | (simp [*]; done)), H', ⟨by first | omega | exact Nat.le_refl _⟩, ⟨by (with_reducible repeat (first | apply Kd.R_alloc | apply Kd.R_drewN | apply Kd.R_drew)); exact Kd.R_mono HO397.out (fun _ hk => ⟨hk.1.1.1.2, ⟨hk.1.1.2, ⟨hk.1.2, hk.2⟩⟩⟩)⟩, ⟨by (with_reducible repeat (first | apply Kd.R_alloc | apply Kd.R_drewN | apply Kd.R_drew)); exact Kd.R_mono HO407.out (fun _ hk => ⟨hk.1.1.1.2, ⟨hk.1.1.2, ⟨hk.1.2, hk.2⟩⟩⟩)⟩, ⟨by (with_reducible repeat (first | apply Kd.R_alloc | apply Kd.R_drewN | apply Kd.R_drew)); exact Kd.R_mono HO417.out (fun _ hk => ⟨hk.1.1.1.2, ⟨hk.1.1.2, ⟨hk.1.2, hk.2⟩⟩⟩)⟩, ⟨by (with_reducible repeat (first | apply Kd.R_alloc | apply Kd.R_drewN | apply Kd.R_drew)); exact Kd.R_mono HO423.out (fun _ hk => ⟨hk.1.1.1.2, ⟨hk.1.1.2, ⟨hk.1.2, hk.2⟩⟩⟩)⟩, ⟨by (with_reducible repeat (first | apply Kd.R_alloc | apply Kd.R_drewN | apply Kd.R_drew)); exact Kd.R_mono HO429.out (fun _ hk => ⟨hk.1.1.1.2, ⟨hk.1.1.2, ⟨hk.1.2, hk.2⟩⟩⟩)⟩, ⟨by (with_reducible repeat (first | refine blk_drewN ?_ _ | refine blk_drew ?_ | refine blk_alloc ?_ _)); exact BK399.out⟩, ⟨by (with_reducible repeat (first | refine blk_drewN ?_ _ | refine blk_drew ?_ | refine blk_alloc ?_ _)); exact BK409.out⟩, ⟨by (with_reducible repeat (first | refine blk_drewN ?_ _ | refine blk_drew ?_ | refine blk_alloc ?_ _)); exact BK419.out⟩, ⟨by (with_reducible repeat (first | refine blk_drewN ?_ _ | refine blk_drew ?_ | refine blk_alloc ?_ _)); exact BK425.out⟩, ⟨by (with_reducible repeat (first | refine blk_drewN ?_ _ | refine blk_drew ?_ | refine blk_alloc ?_ _)); exact BK431.out⟩, ⟨by repeat (first | (with_reducible first | exact HB.out | apply below_alloc | apply pw_below_drewN | apply below_drew1 | refine below_set ?_ GE399.out | refine below_set ?_ GE409.out | refine below_set ?_ GE419.out | refine below_set ?_ GE425.out | refine below_set ?_ GE431.out) | exact HB.out)⟩⟩
     ·replace c61 := Bool.eq_false_iff.mpr c61
      subst c61
      have H1 : (laws_FnCurrents.j0 k l0 t398 t400 t401 t418 t424 t432 t433 t434 t435 t437 t438 true t394 t395 t414 t415 t420 t421) = some r := by rw [if_neg (show ¬ (false = true) by decide)] at H; exact H
      clear H
      have H := H1
      clear H1
      exact absurd ((laws_FnCurrents.j0_true H).trans hT) (by decide)
   case rest =>
    as_aux_lemma =>
     clear HC16
     try clear c1
     try clear c2
     try clear p2
     try clear c3
     try clear c4
     try clear c5
     try clear c6
     try clear c7
     try clear c8
     try clear c9
     try clear c10
     try clear c12
     try clear c26
     try clear c29
     try clear c34
     try clear c35
     try clear c40
     try clear c41
     try clear c42
     try clear c48
     try clear c49
     try clear c50
     try clear c51
     try clear c55
     try clear c55b0
     try clear c55b1
     try clear c56
     try clear c56b0
     try clear c56b1
     try clear c57
     try clear c57b0
     try clear c57b1
     try clear c58
     try clear c58b0
     try clear c58b1
     try clear c59
     try clear c59b0
     try clear c59b1
     try clear c61
     try clear c62
     try clear c62b0
     try clear c62b1
     try clear c63
     try clear c64
     try clear c65
     try clear c66
     try clear c68
     try clear c69
     try clear c70
     try clear c73
     try clear c74
     try clear c75
     try clear c76
     try clear c78
     try clear c79
     try clear c80
     try clear c83
     try clear c84
     try clear c85
     try clear c86
     try clear c88
     try clear c89
     try clear c90
     try clear c91
     try clear c92
     try clear hcz19_0
     try clear hcz19_1
     try clear hcz22_0
     try clear hcz22_1
     try clear hcz27_0
     try clear hcz27_1
     try clear hcz30_0
     try clear hcz30_1
     try clear hcz36_0
     try clear hcz36_1
     try clear hcz43_0
     try clear hcz43_1
     try clear hcz45_0
     try clear hcz45_1
     try clear hcz52_0
     try clear hcz52_1
     try clear hcz67_0
     try clear hcz67_1
     try clear hcz71_0
     try clear hcz71_1
     try clear hcz77_0
     try clear hcz77_1
     try clear hcz81_0
     try clear hcz81_1
     try clear hcz87_0
     try clear hcz87_1
     try clear hcz91_0
     try clear hcz91_1
     try clear hfz19_0
     try clear hfz19_1
     try clear hfz22_0
     try clear hfz22_1
     try clear hfz27_0
     try clear hfz27_1
     try clear hfz30_0
     try clear hfz30_1
     try clear hfz36_0
     try clear hfz36_1
     try clear hfz43_0
     try clear hfz43_1
     try clear hfz45_0
     try clear hfz45_1
     try clear hfz52_0
     try clear hfz52_1
     try clear hfz67_0
     try clear hfz67_1
     try clear hfz71_0
     try clear hfz71_1
     try clear hfz77_0
     try clear hfz77_1
     try clear hfz81_0
     try clear hfz81_1
     try clear hfz87_0
     try clear hfz87_1
     try clear hfz91_0
     try clear hfz91_1
     obtain ⟨kq, x160_15, rfl, HA, HJ15, HO_400001, HO_410001, HO_420001, HO_426001, HO_432001, BK399, BK409, BK419, BK425, BK431, HB⟩ := hcut
     cases kq with
     | zero => exact absurd HA.out (by simp [laws_FnCurrents.j0])
     | succ kj15 =>
      have H := HA.out
      clear HA
      simp only [laws_FnCurrents.j0] at H
      by_cases c93 : x160_15 = true
      case pos =>
       subst c93
       have H1 : (some false) = some r := by rw [if_pos rfl] at H; exact H
       clear H
       have H := H1
       clear H1
       exact absurd ((Option.some.inj H).trans hT) (by decide)
      as_aux_lemma =>
       replace c93 := Bool.eq_false_iff.mpr c93
       subst c93
       have H1 : (if t424 = 0 then ((impl_ExpectedOf.f kj15 t414 t415).bind fun bt441 => ((impl_ExpectedOf.f kj15 t420 t421).bind fun bt443 => (if bt441.2 = 0 then (if bt443.2 = 0 then (laws_FnCurrents.j1 kj15 l0 t398 t400 t401 t432 t433 t434 t435 t437 t438 (bt443.1 != (wrap64 (bt441.1 + t418))) t394 t395 t414 t415 t420 t421) else (laws_FnCurrents.j1 kj15 l0 t398 t400 t401 t432 t433 t434 t435 t437 t438 true t394 t395 t414 t415 t420 t421)) else (laws_FnCurrents.j1 kj15 l0 t398 t400 t401 t432 t433 t434 t435 t437 t438 true t394 t395 t414 t415 t420 t421)))) else (laws_FnCurrents.j2 kj15 t398 t400 t401 t432 t433 t434 t435 t437 t438 t394 t395)) = some r := by rw [if_neg (show ¬ (false = true) by decide)] at H; exact H
       clear H
       have H := H1
       clear H1
       have HC94 := Aside0.mk H
       clear H
       go_upto_if 162 with (fail)
       go_cut [] (fun wc => ∃ (kq : Nat), Aside0 (laws_FnCurrents.j2 kq t398 t400 t401 t432 t433 t434 t435 t437 t438 t394 t395 = some r) ∧ Aside0 (kq ≤ kj15) ∧ Aside0 (Kd.R (Kd.int .i64) 2 wc w.heap.size (fun k_ => some k_ ≠ ((.slice Ao28 t405.length co28) : Value).ownBlock ∧ some k_ ≠ ((.slice Ao37 t415.length co37) : Value).ownBlock ∧ some k_ ≠ ((.slice Ao44 t421.length co44) : Value).ownBlock ∧ some k_ ≠ ((.slice Ao53 t427.length co53) : Value).ownBlock) (.slice Ao20 t395.length co20) t395) ∧ Aside0 (Kd.R (Kd.int .i64) 2 wc w.heap.size (fun k_ => some k_ ≠ ((.slice Ao20 t395.length co20) : Value).ownBlock ∧ some k_ ≠ ((.slice Ao37 t415.length co37) : Value).ownBlock ∧ some k_ ≠ ((.slice Ao44 t421.length co44) : Value).ownBlock ∧ some k_ ≠ ((.slice Ao53 t427.length co53) : Value).ownBlock) (.slice Ao28 t405.length co28) t405) ∧ Aside0 (Kd.R (Kd.int .i64) 2 wc w.heap.size (fun k_ => some k_ ≠ ((.slice Ao20 t395.length co20) : Value).ownBlock ∧ some k_ ≠ ((.slice Ao28 t405.length co28) : Value).ownBlock ∧ some k_ ≠ ((.slice Ao44 t421.length co44) : Value).ownBlock ∧ some k_ ≠ ((.slice Ao53 t427.length co53) : Value).ownBlock) (.slice Ao37 t415.length co37) t415) ∧ Aside0 (Kd.R (Kd.int .i64) 2 wc w.heap.size (fun k_ => some k_ ≠ ((.slice Ao20 t395.length co20) : Value).ownBlock ∧ some k_ ≠ ((.slice Ao28 t405.length co28) : Value).ownBlock ∧ some k_ ≠ ((.slice Ao37 t415.length co37) : Value).ownBlock ∧ some k_ ≠ ((.slice Ao53 t427.length co53) : Value).ownBlock) (.slice Ao44 t421.length co44) t421) ∧ Aside0 (Kd.R (Kd.int .i64) 2 wc w.heap.size (fun k_ => some k_ ≠ ((.slice Ao20 t395.length co20) : Value).ownBlock ∧ some k_ ≠ ((.slice Ao28 t405.length co28) : Value).ownBlock ∧ some k_ ≠ ((.slice Ao37 t415.length co37) : Value).ownBlock ∧ some k_ ≠ ((.slice Ao44 t421.length co44) : Value).ownBlock) (.slice Ao53 t427.length co53) t427) ∧ Aside0 (wc.heap[gb399]? = some (.cells #[.int .i64 t394, (.slice Ao20 t395.length co20)] 118 (0, 0))) ∧ Aside0 (wc.heap[gb409]? = some (.cells #[.int .i64 t404, (.slice Ao28 t405.length co28)] 118 (0, 0))) ∧ Aside0 (wc.heap[gb419]? = some (.cells #[.int .i64 t414, (.slice Ao37 t415.length co37)] 118 (0, 0))) ∧ Aside0 (wc.heap[gb425]? = some (.cells #[.int .i64 t420, (.slice Ao44 t421.length co44)] 118 (0, 0))) ∧ Aside0 (wc.heap[gb431]? = some (.cells #[.int .i64 t426, (.slice Ao53 t427.length co53)] 118 (0, 0))) ∧ Aside0 (Below w.heap.size w wc))
       case first =>
        as_aux_lemma =>
         have H := HC94.out
         clear HC94
         by_cases c95 : t424 = 0
         ·rw [if_pos c95] at H
          have c95b0 : (t424 == 0) = true := beq_iff_eq.mpr c95
          have c95b1 : (t424 != 0) = false := bne_eq_false_iff_eq.mpr c95
          clear c95
          (first | rw [c95b0] | (simp only [i64_w, i32_w]; rw [c95b0]) | skip)
          replace H := Option.bind_eq_some_iff.mp H
          obtain ⟨⟨t441, t442⟩, A960, H⟩ := H
          replace H : ((impl_ExpectedOf.f kj15 t420 t421).bind fun bt443 => (if t442 = 0 then (if bt443.2 = 0 then (laws_FnCurrents.j1 kj15 l0 t398 t400 t401 t432 t433 t434 t435 t437 t438 (bt443.1 != (wrap64 (t441 + t418))) t394 t395 t414 t415 t420 t421) else (laws_FnCurrents.j1 kj15 l0 t398 t400 t401 t432 t433 t434 t435 t437 t438 true t394 t395 t414 t415 t420 t421)) else (laws_FnCurrents.j1 kj15 l0 t398 t400 t401 t432 t433 t434 t435 t437 t438 true t394 t395 t414 t415 t420 t421))) = some r := H
          have A96 := Aside0.mk A960
          clear A960
          replace H := Option.bind_eq_some_iff.mp H
          obtain ⟨⟨t443, t444⟩, A970, H⟩ := H
          replace H : (if t442 = 0 then (if t444 = 0 then (laws_FnCurrents.j1 kj15 l0 t398 t400 t401 t432 t433 t434 t435 t437 t438 (t443 != (wrap64 (t441 + t418))) t394 t395 t414 t415 t420 t421) else (laws_FnCurrents.j1 kj15 l0 t398 t400 t401 t432 t433 t434 t435 t437 t438 true t394 t395 t414 t415 t420 t421)) else (laws_FnCurrents.j1 kj15 l0 t398 t400 t401 t432 t433 t434 t435 t437 t438 true t394 t395 t414 t415 t420 t421)) = some r := H
          have A97 := Aside0.mk A970
          clear A970
          have HC98 := Aside0.mk H
          clear H
          have hnb99 := NB419_399.out
          have hnc99 := NB399_419.out
          have hnb100 := NB419_409.out
          have hnc100 := NB409_419.out
          have hnb101 := NB419_425.out
          have hnc101 := NB425_419.out
          have hnb102 := NB419_431.out
          have hnc102 := NB431_419.out
          have hcz103_0 : wc.cell? ⟨gb419, 0, none⟩ = some (.int .i64 t414) := (blk_cell BK419.out 0).trans rfl
          have hcz103_1 : wc.cell? ⟨gb419, 1, none⟩ = some (.slice Ao37 t415.length co37) := (blk_cell BK419.out 1).trans rfl
          have hfz103_0 := blk_frozen BK419.out 0
          have hfz103_1 := blk_frozen BK419.out 1
          go_upto_region 20 with (first | ((with_reducible refine gate_callee (f := 103) rfl ?_); refine goesL_ (some 165) rfl rfl Try.func103 (by kernel_rfl) rfl #[.agg #[.int .i64 t414, .slice Ao37 t415.length co37]] rfl (by (try simp only [List.map_toArray, List.map_cons, List.map_nil]); first | done | rfl | (simp only [List.length_drop, List.length_take]; rfl)) ?_; (with_reducible refine (impl_ExpectedOf.calls kj15 t414 _ _ t415 t441 t442 _ ?side1 ?side2 A96.out).mono ?_); (case side1 => repeat (first | exact (Kd.R_reads' HO_420001.out).2.2 | (with_reducible refine Kd.C_alloc ?_ _) | (with_reducible refine Kd.C_drewN ?_ _) | (with_reducible refine Kd.C_drew ?_))); (case side2 => exact (Kd.R_reads' HO_420001.out).2.1); rintro e w104 ⟨rfl, hb⟩; refine ⟨_, rfl, ?_⟩; have n0_ := Aside0.mk (Kd.R_below (by (with_reducible repeat (first | apply Kd.R_alloc | apply Kd.R_drewN | apply Kd.R_drew)); exact HO_400001.out) hb); have n1_ := Aside0.mk (Kd.R_below (by (with_reducible repeat (first | apply Kd.R_alloc | apply Kd.R_drewN | apply Kd.R_drew)); exact HO_410001.out) hb); have n2_ := Aside0.mk (Kd.R_below (by (with_reducible repeat (first | apply Kd.R_alloc | apply Kd.R_drewN | apply Kd.R_drew)); exact HO_420001.out) hb); have n3_ := Aside0.mk (Kd.R_below (by (with_reducible repeat (first | apply Kd.R_alloc | apply Kd.R_drewN | apply Kd.R_drew)); exact HO_426001.out) hb); have n4_ := Aside0.mk (Kd.R_below (by (with_reducible repeat (first | apply Kd.R_alloc | apply Kd.R_drewN | apply Kd.R_drew)); exact HO_432001.out) hb); have n5_ := Aside0.mk (blk_below (g := gb399) (o := .cells #[.int .i64 t394, .slice Ao20 t395.length co20] 118 (0, 0)) (by (with_reducible repeat (first | refine blk_drewN ?_ _ | refine blk_drew ?_ | refine blk_alloc ?_ _)); exact BK399.out) hb); have n6_ := Aside0.mk (blk_below (g := gb409) (o := .cells #[.int .i64 t404, .slice Ao28 t405.length co28] 118 (0, 0)) (by (with_reducible repeat (first | refine blk_drewN ?_ _ | refine blk_drew ?_ | refine blk_alloc ?_ _)); exact BK409.out) hb); have n7_ := Aside0.mk (blk_below (g := gb419) (o := .cells #[.int .i64 t414, .slice Ao37 t415.length co37] 118 (0, 0)) (by (with_reducible repeat (first | refine blk_drewN ?_ _ | refine blk_drew ?_ | refine blk_alloc ?_ _)); exact BK419.out) hb); have n8_ := Aside0.mk (blk_below (g := gb425) (o := .cells #[.int .i64 t420, .slice Ao44 t421.length co44] 118 (0, 0)) (by (with_reducible repeat (first | refine blk_drewN ?_ _ | refine blk_drew ?_ | refine blk_alloc ?_ _)); exact BK425.out) hb); have n9_ := Aside0.mk (blk_below (g := gb431) (o := .cells #[.int .i64 t426, .slice Ao53 t427.length co53] 118 (0, 0)) (by (with_reducible repeat (first | refine blk_drewN ?_ _ | refine blk_drew ?_ | refine blk_alloc ?_ _)); exact BK431.out) hb); have n10_ := Aside0.mk (below_step (by repeat (first | (with_reducible first | exact HB.out | apply below_alloc | apply pw_below_drewN | apply below_drew1 | refine below_set ?_ GE399.out | refine below_set ?_ GE409.out | refine below_set ?_ GE419.out | refine below_set ?_ GE425.out | refine below_set ?_ GE431.out) | exact HB.out)) hb); clear HO_400001; clear HO_410001; clear HO_420001; clear HO_426001; clear HO_432001; clear BK399; clear BK409; clear BK419; clear BK425; clear BK431; clear HB; have HO_400001 := n0_; have HO_410001 := n1_; have HO_420001 := n2_; have HO_426001 := n3_; have HO_432001 := n4_; have BK399 := n5_; have BK409 := n6_; have BK419 := n7_; have BK425 := n8_; have BK431 := n9_; have HB := n10_; clear n0_ n1_ n2_ n3_ n4_ n5_ n6_ n7_ n8_ n9_ n10_; (try clear hb); (try clear hb2); (try clear hk); (try clear hi); have hnb105 := NB425_399.out; have hnc105 := NB399_425.out; have hnb106 := NB425_409.out; have hnc106 := NB409_425.out; have hnb107 := NB425_431.out; have hnc107 := NB431_425.out; have hcz108_0 : w104.cell? ⟨gb425, 0, none⟩ = some (.int .i64 t420) := (blk_cell BK425.out 0).trans rfl; have hcz108_1 : w104.cell? ⟨gb425, 1, none⟩ = some (.slice Ao44 t421.length co44) := (blk_cell BK425.out 1).trans rfl; have hfz108_0 := blk_frozen BK425.out 0; have hfz108_1 := blk_frozen BK425.out 1) | ((with_reducible refine gate_callee (f := 103) rfl ?_); refine goesL_ (some 170) rfl rfl Try.func103 (by kernel_rfl) rfl #[.agg #[.int .i64 t420, .slice Ao44 t421.length co44]] rfl (by (try simp only [List.map_toArray, List.map_cons, List.map_nil]); first | done | rfl | (simp only [List.length_drop, List.length_take]; rfl)) ?_; (with_reducible refine (impl_ExpectedOf.calls kj15 t420 _ _ t421 t443 t444 _ ?side1 ?side2 A97.out).mono ?_); (case side1 => repeat (first | exact (Kd.R_reads' HO_426001.out).2.2 | (with_reducible refine Kd.C_alloc ?_ _) | (with_reducible refine Kd.C_drewN ?_ _) | (with_reducible refine Kd.C_drew ?_))); (case side2 => exact (Kd.R_reads' HO_426001.out).2.1); rintro e w109 ⟨rfl, hb⟩; refine ⟨_, rfl, ?_⟩; have n0_ := Aside0.mk (Kd.R_below (by (with_reducible repeat (first | apply Kd.R_alloc | apply Kd.R_drewN | apply Kd.R_drew)); exact HO_400001.out) hb); have n1_ := Aside0.mk (Kd.R_below (by (with_reducible repeat (first | apply Kd.R_alloc | apply Kd.R_drewN | apply Kd.R_drew)); exact HO_410001.out) hb); have n2_ := Aside0.mk (Kd.R_below (by (with_reducible repeat (first | apply Kd.R_alloc | apply Kd.R_drewN | apply Kd.R_drew)); exact HO_420001.out) hb); have n3_ := Aside0.mk (Kd.R_below (by (with_reducible repeat (first | apply Kd.R_alloc | apply Kd.R_drewN | apply Kd.R_drew)); exact HO_426001.out) hb); have n4_ := Aside0.mk (Kd.R_below (by (with_reducible repeat (first | apply Kd.R_alloc | apply Kd.R_drewN | apply Kd.R_drew)); exact HO_432001.out) hb); have n5_ := Aside0.mk (blk_below (g := gb399) (o := .cells #[.int .i64 t394, .slice Ao20 t395.length co20] 118 (0, 0)) (by (with_reducible repeat (first | refine blk_drewN ?_ _ | refine blk_drew ?_ | refine blk_alloc ?_ _)); exact BK399.out) hb); have n6_ := Aside0.mk (blk_below (g := gb409) (o := .cells #[.int .i64 t404, .slice Ao28 t405.length co28] 118 (0, 0)) (by (with_reducible repeat (first | refine blk_drewN ?_ _ | refine blk_drew ?_ | refine blk_alloc ?_ _)); exact BK409.out) hb); have n7_ := Aside0.mk (blk_below (g := gb419) (o := .cells #[.int .i64 t414, .slice Ao37 t415.length co37] 118 (0, 0)) (by (with_reducible repeat (first | refine blk_drewN ?_ _ | refine blk_drew ?_ | refine blk_alloc ?_ _)); exact BK419.out) hb); have n8_ := Aside0.mk (blk_below (g := gb425) (o := .cells #[.int .i64 t420, .slice Ao44 t421.length co44] 118 (0, 0)) (by (with_reducible repeat (first | refine blk_drewN ?_ _ | refine blk_drew ?_ | refine blk_alloc ?_ _)); exact BK425.out) hb); have n9_ := Aside0.mk (blk_below (g := gb431) (o := .cells #[.int .i64 t426, .slice Ao53 t427.length co53] 118 (0, 0)) (by (with_reducible repeat (first | refine blk_drewN ?_ _ | refine blk_drew ?_ | refine blk_alloc ?_ _)); exact BK431.out) hb); have n10_ := Aside0.mk (below_step (by repeat (first | (with_reducible first | exact HB.out | apply below_alloc | apply pw_below_drewN | apply below_drew1 | refine below_set ?_ GE399.out | refine below_set ?_ GE409.out | refine below_set ?_ GE419.out | refine below_set ?_ GE425.out | refine below_set ?_ GE431.out) | exact HB.out)) hb); clear HO_400001; clear HO_410001; clear HO_420001; clear HO_426001; clear HO_432001; clear BK399; clear BK409; clear BK419; clear BK425; clear BK431; clear HB; have HO_400001 := n0_; have HO_410001 := n1_; have HO_420001 := n2_; have HO_426001 := n3_; have HO_432001 := n4_; have BK399 := n5_; have BK409 := n6_; have BK419 := n7_; have BK425 := n8_; have BK431 := n9_; have HB := n10_; clear n0_ n1_ n2_ n3_ n4_ n5_ n6_ n7_ n8_ n9_ n10_; (try clear hb); (try clear hb2); (try clear hk); (try clear hi)))
          (try simp only [Act.put, List.setIfInBounds_toArray, List.set_cons_zero, List.set_cons_succ])
          go_cut [185] (fun v185 wc => ∃ (kq : Nat) (x185_97 : Bool), v185 = .bool x185_97 ∧ Aside0 (laws_FnCurrents.j1 kq l0 t398 t400 t401 t432 t433 t434 t435 t437 t438 x185_97 t394 t395 t414 t415 t420 t421 = some r) ∧ Aside0 (kq ≤ kj15) ∧ Aside0 (Kd.R (Kd.int .i64) 2 wc w.heap.size (fun k_ => some k_ ≠ ((.slice Ao28 t405.length co28) : Value).ownBlock ∧ some k_ ≠ ((.slice Ao37 t415.length co37) : Value).ownBlock ∧ some k_ ≠ ((.slice Ao44 t421.length co44) : Value).ownBlock ∧ some k_ ≠ ((.slice Ao53 t427.length co53) : Value).ownBlock) (.slice Ao20 t395.length co20) t395) ∧ Aside0 (Kd.R (Kd.int .i64) 2 wc w.heap.size (fun k_ => some k_ ≠ ((.slice Ao20 t395.length co20) : Value).ownBlock ∧ some k_ ≠ ((.slice Ao37 t415.length co37) : Value).ownBlock ∧ some k_ ≠ ((.slice Ao44 t421.length co44) : Value).ownBlock ∧ some k_ ≠ ((.slice Ao53 t427.length co53) : Value).ownBlock) (.slice Ao28 t405.length co28) t405) ∧ Aside0 (Kd.R (Kd.int .i64) 2 wc w.heap.size (fun k_ => some k_ ≠ ((.slice Ao20 t395.length co20) : Value).ownBlock ∧ some k_ ≠ ((.slice Ao28 t405.length co28) : Value).ownBlock ∧ some k_ ≠ ((.slice Ao44 t421.length co44) : Value).ownBlock ∧ some k_ ≠ ((.slice Ao53 t427.length co53) : Value).ownBlock) (.slice Ao37 t415.length co37) t415) ∧ Aside0 (Kd.R (Kd.int .i64) 2 wc w.heap.size (fun k_ => some k_ ≠ ((.slice Ao20 t395.length co20) : Value).ownBlock ∧ some k_ ≠ ((.slice Ao28 t405.length co28) : Value).ownBlock ∧ some k_ ≠ ((.slice Ao37 t415.length co37) : Value).ownBlock ∧ some k_ ≠ ((.slice Ao53 t427.length co53) : Value).ownBlock) (.slice Ao44 t421.length co44) t421) ∧ Aside0 (Kd.R (Kd.int .i64) 2 wc w.heap.size (fun k_ => some k_ ≠ ((.slice Ao20 t395.length co20) : Value).ownBlock ∧ some k_ ≠ ((.slice Ao28 t405.length co28) : Value).ownBlock ∧ some k_ ≠ ((.slice Ao37 t415.length co37) : Value).ownBlock ∧ some k_ ≠ ((.slice Ao44 t421.length co44) : Value).ownBlock) (.slice Ao53 t427.length co53) t427) ∧ Aside0 (wc.heap[gb399]? = some (.cells #[.int .i64 t394, (.slice Ao20 t395.length co20)] 118 (0, 0))) ∧ Aside0 (wc.heap[gb409]? = some (.cells #[.int .i64 t404, (.slice Ao28 t405.length co28)] 118 (0, 0))) ∧ Aside0 (wc.heap[gb419]? = some (.cells #[.int .i64 t414, (.slice Ao37 t415.length co37)] 118 (0, 0))) ∧ Aside0 (wc.heap[gb425]? = some (.cells #[.int .i64 t420, (.slice Ao44 t421.length co44)] 118 (0, 0))) ∧ Aside0 (wc.heap[gb431]? = some (.cells #[.int .i64 t426, (.slice Ao53 t427.length co53)] 118 (0, 0))) ∧ Aside0 (Below w.heap.size w wc))
          case first =>
           have H := HC98.out
           clear HC98
           by_cases c110 : t442 = 0
           case neg =>
            rw [if_neg c110] at H
            have c110b0 : (t442 == 0) = false := beq_eq_false_iff_ne.mpr c110
            have c110b1 : (t442 != 0) = true := bne_iff_ne.mpr c110
            (first | rw [c110b0] | (simp only [i64_w, i32_w]; rw [c110b0]) | skip)
            exact absurd ((laws_FnCurrents.j1_true H).trans hT) (by decide)
           rw [if_pos c110] at H
           have c110b0 : (t442 == 0) = true := beq_iff_eq.mpr c110
           have c110b1 : (t442 != 0) = false := bne_eq_false_iff_eq.mpr c110
           clear c110
           (first | rw [c110b0] | (simp only [i64_w, i32_w]; rw [c110b0]) | skip)
           by_cases c111 : t444 = 0
           case neg =>
            rw [if_neg c111] at H
            have c111b0 : (t444 == 0) = false := beq_eq_false_iff_ne.mpr c111
            have c111b1 : (t444 != 0) = true := bne_iff_ne.mpr c111
            exact absurd ((laws_FnCurrents.j1_true H).trans hT) (by decide)
           rw [if_pos c111] at H
           have c111b0 : (t444 == 0) = true := beq_iff_eq.mpr c111
           have c111b1 : (t444 != 0) = false := bne_eq_false_iff_eq.mpr c111
           clear c111
           have H' := Aside0.mk H
           clear H
           go_wp2
           go_meet
           case rel => exact ⟨_, ((t443 != (wrap64 (t441 + t418)))), (by first | rfl | (simp; done) | (simp [*]; done)), H', ⟨by have := HJ15.out; first | omega | exact Nat.le_refl _⟩, ⟨by (with_reducible repeat (first | apply Kd.R_alloc | apply Kd.R_drewN | apply Kd.R_drew)); exact HO_400001.out⟩, ⟨by (with_reducible repeat (first | apply Kd.R_alloc | apply Kd.R_drewN | apply Kd.R_drew)); exact HO_410001.out⟩, ⟨by (with_reducible repeat (first | apply Kd.R_alloc | apply Kd.R_drewN | apply Kd.R_drew)); exact HO_420001.out⟩, ⟨by (with_reducible repeat (first | apply Kd.R_alloc | apply Kd.R_drewN | apply Kd.R_drew)); exact HO_426001.out⟩, ⟨by (with_reducible repeat (first | apply Kd.R_alloc | apply Kd.R_drewN | apply Kd.R_drew)); exact HO_432001.out⟩, ⟨by (with_reducible repeat (first | refine blk_drewN ?_ _ | refine blk_drew ?_ | refine blk_alloc ?_ _)); exact BK399.out⟩, ⟨by (with_reducible repeat (first | refine blk_drewN ?_ _ | refine blk_drew ?_ | refine blk_alloc ?_ _)); exact BK409.out⟩, ⟨by (with_reducible repeat (first | refine blk_drewN ?_ _ | refine blk_drew ?_ | refine blk_alloc ?_ _)); exact BK419.out⟩, ⟨by (with_reducible repeat (first | refine blk_drewN ?_ _ | refine blk_drew ?_ | refine blk_alloc ?_ _)); exact BK425.out⟩, ⟨by (with_reducible repeat (first | refine blk_drewN ?_ _ | refine blk_drew ?_ | refine blk_alloc ?_ _)); exact BK431.out⟩, ⟨by repeat (first | (with_reducible first | exact HB.out | apply below_alloc | apply pw_below_drewN | apply below_drew1 | refine below_set ?_ GE399.out | refine below_set ?_ GE409.out | refine below_set ?_ GE419.out | refine below_set ?_ GE425.out | refine below_set ?_ GE431.out) | exact HB.out)⟩⟩
          case rest =>
           clear HC98
           try clear c1
           try clear c2
           try clear p2
           try clear c3
           try clear c4
           try clear c5
           try clear c6
           try clear p6
           try clear c7
           try clear c8
           try clear c9
           try clear c10
           try clear c11
           try clear c12
           try clear c26
           try clear c29
           try clear c34
           try clear c35
           try clear c40
           try clear c41
           try clear c42
           try clear c48
           try clear c49
           try clear c50
           try clear c51
           try clear c55
           try clear c55b0
           try clear c55b1
           try clear c56
           try clear c56b0
           try clear c56b1
           try clear c57
           try clear c57b0
           try clear c57b1
           try clear c58
           try clear c58b0
           try clear c58b1
           try clear c59
           try clear c59b0
           try clear c59b1
           try clear c61
           try clear c62
           try clear c62b0
           try clear c62b1
           try clear c63
           try clear c64
           try clear p64
           try clear c65
           try clear c66
           try clear c68
           try clear c69
           try clear c70
           try clear c73
           try clear c74
           try clear c75
           try clear c76
           try clear c78
           try clear c79
           try clear c80
           try clear c83
           try clear c84
           try clear c85
           try clear c86
           try clear c88
           try clear c89
           try clear c90
           try clear c91
           try clear c92
           try clear c93
           try clear c94
           try clear c95
           try clear c95b0
           try clear c95b1
           try clear c96
           try clear c97
           try clear c98
           try clear c99
           try clear c100
           try clear c101
           try clear c102
           try clear c103
           try clear c105
           try clear c106
           try clear c107
           try clear c110
           try clear c110b0
           try clear c110b1
           try clear c111
           try clear c111b0
           try clear c111b1
           try clear hcz103_0
           try clear hcz103_1
           try clear hcz108_0
           try clear hcz108_1
           try clear hcz19_0
           try clear hcz19_1
           try clear hcz22_0
           try clear hcz22_1
           try clear hcz27_0
           try clear hcz27_1
           try clear hcz30_0
           try clear hcz30_1
           try clear hcz36_0
           try clear hcz36_1
           try clear hcz43_0
           try clear hcz43_1
           try clear hcz45_0
           try clear hcz45_1
           try clear hcz52_0
           try clear hcz52_1
           try clear hcz67_0
           try clear hcz67_1
           try clear hcz71_0
           try clear hcz71_1
           try clear hcz77_0
           try clear hcz77_1
           try clear hcz81_0
           try clear hcz81_1
           try clear hcz87_0
           try clear hcz87_1
           try clear hcz91_0
           try clear hcz91_1
           try clear hfz103_0
           try clear hfz103_1
           try clear hfz108_0
           try clear hfz108_1
           try clear hfz19_0
           try clear hfz19_1
           try clear hfz22_0
           try clear hfz22_1
           try clear hfz27_0
           try clear hfz27_1
           try clear hfz30_0
           try clear hfz30_1
           try clear hfz36_0
           try clear hfz36_1
           try clear hfz43_0
           try clear hfz43_1
           try clear hfz45_0
           try clear hfz45_1
           try clear hfz52_0
           try clear hfz52_1
           try clear hfz67_0
           try clear hfz67_1
           try clear hfz71_0
           try clear hfz71_1
           try clear hfz77_0
           try clear hfz77_1
           try clear hfz81_0
           try clear hfz81_1
           try clear hfz87_0
           try clear hfz87_1
           try clear hfz91_0
           try clear hfz91_1
           try clear p2
           obtain ⟨kq, x185_97, rfl, HA, HJ97, HO_400001, HO_410001, HO_420001, HO_426001, HO_432001, BK399, BK409, BK419, BK425, BK431, HB⟩ := hcut
           cases kq with
           | zero => exact absurd HA.out (by simp [laws_FnCurrents.j1])
           | succ kj97 =>
            have H := HA.out
            clear HA
            simp only [laws_FnCurrents.j1] at H
            by_cases c112 : x185_97 = true
            case pos =>
             subst c112
             have H1 : (some false) = some r := by rw [if_pos rfl] at H; exact H
             clear H
             have H := H1
             clear H1
             exact absurd ((Option.some.inj H).trans hT) (by decide)
            as_aux_lemma =>
             replace c112 := Bool.eq_false_iff.mpr c112
             subst c112
             have H1 : ((laws_roll.f kj97 l0 1401).bind fun bt445 => ((laws_dice_below.f bt445.1 bt445.2.1 bt445.2.2 1001).bind fun bt449 => ((impl_CurrentOf.f kj97 t420 t421 bt449.1).bind fun bt452 => ((impl_CurrentOf.f kj97 t414 t415 bt449.1).bind fun bt454 => (if bt452.2 = 0 then (if bt454.2 = 0 then (if bt452.1 > bt454.1 then (some false) else (laws_FnCurrents.j2 kj97 t398 t400 t401 t432 t433 t434 t435 t437 t438 t394 t395)) else (some false)) else (some false)))))) = some r := by rw [if_neg (show ¬ (false = true) by decide)] at H; exact H
             clear H
             have H := H1
             clear H1
             replace H := Option.bind_eq_some_iff.mp H
             obtain ⟨⟨t445, t446, t447⟩, A1130, H⟩ := H
             replace H : ((laws_dice_below.f t445 t446 t447 1001).bind fun bt449 => ((impl_CurrentOf.f kj97 t420 t421 bt449.1).bind fun bt452 => ((impl_CurrentOf.f kj97 t414 t415 bt449.1).bind fun bt454 => (if bt452.2 = 0 then (if bt454.2 = 0 then (if bt452.1 > bt454.1 then (some false) else (laws_FnCurrents.j2 kj97 t398 t400 t401 t432 t433 t434 t435 t437 t438 t394 t395)) else (some false)) else (some false))))) = some r := H
             have A113 := Aside0.mk A1130
             clear A1130
             replace H := Option.bind_eq_some_iff.mp H
             obtain ⟨⟨t449, t450, t451⟩, A1140, H⟩ := H
             replace H : ((impl_CurrentOf.f kj97 t420 t421 t449).bind fun bt452 => ((impl_CurrentOf.f kj97 t414 t415 t449).bind fun bt454 => (if bt452.2 = 0 then (if bt454.2 = 0 then (if bt452.1 > bt454.1 then (some false) else (laws_FnCurrents.j2 kj97 t398 t400 t401 t432 t433 t434 t435 t437 t438 t394 t395)) else (some false)) else (some false)))) = some r := H
             have A114 := Aside0.mk A1140
             clear A1140
             replace H := Option.bind_eq_some_iff.mp H
             obtain ⟨⟨t452, t453⟩, A1150, H⟩ := H
             replace H : ((impl_CurrentOf.f kj97 t414 t415 t449).bind fun bt454 => (if t453 = 0 then (if bt454.2 = 0 then (if t452 > bt454.1 then (some false) else (laws_FnCurrents.j2 kj97 t398 t400 t401 t432 t433 t434 t435 t437 t438 t394 t395)) else (some false)) else (some false))) = some r := H
             have A115 := Aside0.mk A1150
             clear A1150
             replace H := Option.bind_eq_some_iff.mp H
             obtain ⟨⟨t454, t455⟩, A1160, H⟩ := H
             replace H : (if t453 = 0 then (if t455 = 0 then (if t452 > t454 then (some false) else (laws_FnCurrents.j2 kj97 t398 t400 t401 t432 t433 t434 t435 t437 t438 t394 t395)) else (some false)) else (some false)) = some r := H
             have A116 := Aside0.mk A1160
             clear A1160
             by_cases c117 : t453 = 0
             case neg =>
              rw [if_neg c117] at H
              have c117b0 : (t453 == 0) = false := beq_eq_false_iff_ne.mpr c117
              have c117b1 : (t453 != 0) = true := bne_iff_ne.mpr c117
              exact absurd ((Option.some.inj H).trans hT) (by decide)
             rw [if_pos c117] at H
             have c117b0 : (t453 == 0) = true := beq_iff_eq.mpr c117
             have c117b1 : (t453 != 0) = false := bne_eq_false_iff_eq.mpr c117
             clear c117
             by_cases c118 : t455 = 0
             case neg =>
              rw [if_neg c118] at H
              have c118b0 : (t455 == 0) = false := beq_eq_false_iff_ne.mpr c118
              have c118b1 : (t455 != 0) = true := bne_iff_ne.mpr c118
              exact absurd ((Option.some.inj H).trans hT) (by decide)
             rw [if_pos c118] at H
             have c118b0 : (t455 == 0) = true := beq_iff_eq.mpr c118
             have c118b1 : (t455 != 0) = false := bne_eq_false_iff_eq.mpr c118
             clear c118
             by_cases c119 : t452 > t454
             case pos =>
              rw [if_pos c119] at H
              have c119b0 : decide (t454 < t452) = true := decide_eq_true c119
              clear c119
              exact absurd ((Option.some.inj H).trans hT) (by decide)
             rw [if_neg c119] at H
             have c119b0 : decide (t454 < t452) = false := decide_eq_false c119
             clear c119
             have H' := Aside0.mk H
             clear H
             go_wp2_with (first | ((with_reducible refine gate_callee (f := 57) rfl ?_); refine goesL_ (some 187) rfl rfl Try.func57 (by kernel_rfl) rfl #[.slice A0 l0.length c0, .int .u64 1401] rfl (by (try simp only [List.map_toArray, List.map_cons, List.map_nil]); first | done | rfl | (simp only [List.length_drop, List.length_take]; rfl)) ?_; (with_reducible refine (laws_roll.calls kj97 _ _ l0 1401 t445 t446 t447 w _ ?side1 ?side2 ?side3 A113.out).mono ?_); (case side1 => repeat (first | (with_reducible first | exact HB.out | apply below_alloc | apply pw_below_drewN | apply below_drew1 | refine below_set ?_ GE399.out | refine below_set ?_ GE409.out | refine below_set ?_ GE419.out | refine below_set ?_ GE425.out | refine below_set ?_ GE431.out) | exact HB.out)); (case side2 => exact HR0.out); (case side3 => exact HC0.out); rintro e w135 ⟨g448, rfl, hi, hb, hb2⟩; refine ⟨_, rfl, ?_⟩; have n0_ := Aside0.mk (Kd.R_below (by (with_reducible repeat (first | apply Kd.R_alloc | apply Kd.R_drewN | apply Kd.R_drew)); exact HO_400001.out) hb2); have n1_ := Aside0.mk (Kd.R_below (by (with_reducible repeat (first | apply Kd.R_alloc | apply Kd.R_drewN | apply Kd.R_drew)); exact HO_410001.out) hb2); have n2_ := Aside0.mk (Kd.R_below (by (with_reducible repeat (first | apply Kd.R_alloc | apply Kd.R_drewN | apply Kd.R_drew)); exact HO_420001.out) hb2); have n3_ := Aside0.mk (Kd.R_below (by (with_reducible repeat (first | apply Kd.R_alloc | apply Kd.R_drewN | apply Kd.R_drew)); exact HO_426001.out) hb2); have n4_ := Aside0.mk (Kd.R_below (by (with_reducible repeat (first | apply Kd.R_alloc | apply Kd.R_drewN | apply Kd.R_drew)); exact HO_432001.out) hb2); have n5_ := Aside0.mk (blk_below (g := gb399) (o := .cells #[.int .i64 t394, .slice Ao20 t395.length co20] 118 (0, 0)) (by (with_reducible repeat (first | refine blk_drewN ?_ _ | refine blk_drew ?_ | refine blk_alloc ?_ _)); exact BK399.out) hb2); have n6_ := Aside0.mk (blk_below (g := gb409) (o := .cells #[.int .i64 t404, .slice Ao28 t405.length co28] 118 (0, 0)) (by (with_reducible repeat (first | refine blk_drewN ?_ _ | refine blk_drew ?_ | refine blk_alloc ?_ _)); exact BK409.out) hb2); have n7_ := Aside0.mk (blk_below (g := gb419) (o := .cells #[.int .i64 t414, .slice Ao37 t415.length co37] 118 (0, 0)) (by (with_reducible repeat (first | refine blk_drewN ?_ _ | refine blk_drew ?_ | refine blk_alloc ?_ _)); exact BK419.out) hb2); have n8_ := Aside0.mk (blk_below (g := gb425) (o := .cells #[.int .i64 t420, .slice Ao44 t421.length co44] 118 (0, 0)) (by (with_reducible repeat (first | refine blk_drewN ?_ _ | refine blk_drew ?_ | refine blk_alloc ?_ _)); exact BK425.out) hb2); have n9_ := Aside0.mk (blk_below (g := gb431) (o := .cells #[.int .i64 t426, .slice Ao53 t427.length co53] 118 (0, 0)) (by (with_reducible repeat (first | refine blk_drewN ?_ _ | refine blk_drew ?_ | refine blk_alloc ?_ _)); exact BK431.out) hb2); have n10_ := Aside0.mk (hb); have n11_ := Aside0.mk (hi); have n12_ := Aside0.mk (IsS176.ne_blk hi (blk_below (g := gb399) (o := .cells #[.int .i64 t394, .slice Ao20 t395.length co20] 118 (0, 0)) (by (with_reducible repeat (first | refine blk_drewN ?_ _ | refine blk_drew ?_ | refine blk_alloc ?_ _)); exact BK399.out) hb2) (by decide)); have n13_ := Aside0.mk (Ne.symm (IsS176.ne_blk hi (blk_below (g := gb399) (o := .cells #[.int .i64 t394, .slice Ao20 t395.length co20] 118 (0, 0)) (by (with_reducible repeat (first | refine blk_drewN ?_ _ | refine blk_drew ?_ | refine blk_alloc ?_ _)); exact BK399.out) hb2) (by decide))); have n14_ := Aside0.mk (IsS176.ne_blk hi (blk_below (g := gb409) (o := .cells #[.int .i64 t404, .slice Ao28 t405.length co28] 118 (0, 0)) (by (with_reducible repeat (first | refine blk_drewN ?_ _ | refine blk_drew ?_ | refine blk_alloc ?_ _)); exact BK409.out) hb2) (by decide)); have n15_ := Aside0.mk (Ne.symm (IsS176.ne_blk hi (blk_below (g := gb409) (o := .cells #[.int .i64 t404, .slice Ao28 t405.length co28] 118 (0, 0)) (by (with_reducible repeat (first | refine blk_drewN ?_ _ | refine blk_drew ?_ | refine blk_alloc ?_ _)); exact BK409.out) hb2) (by decide))); have n16_ := Aside0.mk (IsS176.ne_blk hi (blk_below (g := gb419) (o := .cells #[.int .i64 t414, .slice Ao37 t415.length co37] 118 (0, 0)) (by (with_reducible repeat (first | refine blk_drewN ?_ _ | refine blk_drew ?_ | refine blk_alloc ?_ _)); exact BK419.out) hb2) (by decide)); have n17_ := Aside0.mk (Ne.symm (IsS176.ne_blk hi (blk_below (g := gb419) (o := .cells #[.int .i64 t414, .slice Ao37 t415.length co37] 118 (0, 0)) (by (with_reducible repeat (first | refine blk_drewN ?_ _ | refine blk_drew ?_ | refine blk_alloc ?_ _)); exact BK419.out) hb2) (by decide))); have n18_ := Aside0.mk (IsS176.ne_blk hi (blk_below (g := gb425) (o := .cells #[.int .i64 t420, .slice Ao44 t421.length co44] 118 (0, 0)) (by (with_reducible repeat (first | refine blk_drewN ?_ _ | refine blk_drew ?_ | refine blk_alloc ?_ _)); exact BK425.out) hb2) (by decide)); have n19_ := Aside0.mk (Ne.symm (IsS176.ne_blk hi (blk_below (g := gb425) (o := .cells #[.int .i64 t420, .slice Ao44 t421.length co44] 118 (0, 0)) (by (with_reducible repeat (first | refine blk_drewN ?_ _ | refine blk_drew ?_ | refine blk_alloc ?_ _)); exact BK425.out) hb2) (by decide))); have n20_ := Aside0.mk (IsS176.ne_blk hi (blk_below (g := gb431) (o := .cells #[.int .i64 t426, .slice Ao53 t427.length co53] 118 (0, 0)) (by (with_reducible repeat (first | refine blk_drewN ?_ _ | refine blk_drew ?_ | refine blk_alloc ?_ _)); exact BK431.out) hb2) (by decide)); have n21_ := Aside0.mk (Ne.symm (IsS176.ne_blk hi (blk_below (g := gb431) (o := .cells #[.int .i64 t426, .slice Ao53 t427.length co53] 118 (0, 0)) (by (with_reducible repeat (first | refine blk_drewN ?_ _ | refine blk_drew ?_ | refine blk_alloc ?_ _)); exact BK431.out) hb2) (by decide))); clear HO_400001; clear HO_410001; clear HO_420001; clear HO_426001; clear HO_432001; clear BK399; clear BK409; clear BK419; clear BK425; clear BK431; clear HB; have HO_400001 := n0_; have HO_410001 := n1_; have HO_420001 := n2_; have HO_426001 := n3_; have HO_432001 := n4_; have BK399 := n5_; have BK409 := n6_; have BK419 := n7_; have BK425 := n8_; have BK431 := n9_; have HB := n10_; have HI448 := n11_; have NB448_399 := n12_; have NB399_448 := n13_; have NB448_409 := n14_; have NB409_448 := n15_; have NB448_419 := n16_; have NB419_448 := n17_; have NB448_425 := n18_; have NB425_448 := n19_; have NB448_431 := n20_; have NB431_448 := n21_; clear n0_ n1_ n2_ n3_ n4_ n5_ n6_ n7_ n8_ n9_ n10_ n11_ n12_ n13_ n14_ n15_ n16_ n17_ n18_ n19_ n20_ n21_; (try clear hb); (try clear hb2); (try clear hk); (try clear hi)) | ((with_reducible refine gate_callee (f := 58) rfl ?_); refine goesL_ (some 188) rfl rfl Try.func58 (by kernel_rfl) rfl #[.pointer (some ⟨g448, 0, none⟩), .int .i64 1001] rfl (by (try simp only [List.map_toArray, List.map_cons, List.map_nil]); first | done | rfl | (simp only [List.length_drop, List.length_take]; rfl)) ?_; (with_reducible refine (laws_dice_below.calls g448 t445 t446 t447 1001 t449 t450 t451 w _ ?side1 ?side2 A114.out).mono ?_); (case side1 => repeat (first | (with_reducible first | exact HI448.out | apply IsS176.alloc | apply IsS176.drewN | apply IsS176.drew | apply IsS176.set_1 | apply IsS176.set_2 | refine IsS176.far ?_ NB448_399.out _ | refine IsS176.far ?_ NB448_409.out _ | refine IsS176.far ?_ NB448_419.out _ | refine IsS176.far ?_ NB448_425.out _ | refine IsS176.far ?_ NB448_431.out _) | exact HI448.out)); (case side2 => repeat (first | (with_reducible first | exact HB.out | apply below_alloc | apply pw_below_drewN | apply below_drew1 | refine below_set ?_ (IsS176.ge HI448.out) | refine below_set ?_ GE399.out | refine below_set ?_ GE409.out | refine below_set ?_ GE419.out | refine below_set ?_ GE425.out | refine below_set ?_ GE431.out) | exact HB.out)); rintro e w136 ⟨rfl, hi, hb, hk⟩; refine ⟨_, rfl, ?_⟩; have n0_ := Aside0.mk (Kd.R_mono (Kd.R_keep (IsS176.apart (show IsS176 w _ g448 t445 t446 t447 from by repeat (first | (with_reducible first | exact HI448.out | apply IsS176.alloc | apply IsS176.drewN | apply IsS176.drew | apply IsS176.set_1 | apply IsS176.set_2 | refine IsS176.far ?_ NB448_399.out _ | refine IsS176.far ?_ NB448_409.out _ | refine IsS176.far ?_ NB448_419.out _ | refine IsS176.far ?_ NB448_425.out _ | refine IsS176.far ?_ NB448_431.out _) | exact HI448.out)) (by (with_reducible repeat (first | apply Kd.R_alloc | apply Kd.R_drewN | apply Kd.R_drew)); exact HO_400001.out) (by decide)) hk (fun _ h => h.2)) (fun _ h => h.1)); have n1_ := Aside0.mk (Kd.R_mono (Kd.R_keep (IsS176.apart (show IsS176 w _ g448 t445 t446 t447 from by repeat (first | (with_reducible first | exact HI448.out | apply IsS176.alloc | apply IsS176.drewN | apply IsS176.drew | apply IsS176.set_1 | apply IsS176.set_2 | refine IsS176.far ?_ NB448_399.out _ | refine IsS176.far ?_ NB448_409.out _ | refine IsS176.far ?_ NB448_419.out _ | refine IsS176.far ?_ NB448_425.out _ | refine IsS176.far ?_ NB448_431.out _) | exact HI448.out)) (by (with_reducible repeat (first | apply Kd.R_alloc | apply Kd.R_drewN | apply Kd.R_drew)); exact HO_410001.out) (by decide)) hk (fun _ h => h.2)) (fun _ h => h.1)); have n2_ := Aside0.mk (Kd.R_mono (Kd.R_keep (IsS176.apart (show IsS176 w _ g448 t445 t446 t447 from by repeat (first | (with_reducible first | exact HI448.out | apply IsS176.alloc | apply IsS176.drewN | apply IsS176.drew | apply IsS176.set_1 | apply IsS176.set_2 | refine IsS176.far ?_ NB448_399.out _ | refine IsS176.far ?_ NB448_409.out _ | refine IsS176.far ?_ NB448_419.out _ | refine IsS176.far ?_ NB448_425.out _ | refine IsS176.far ?_ NB448_431.out _) | exact HI448.out)) (by (with_reducible repeat (first | apply Kd.R_alloc | apply Kd.R_drewN | apply Kd.R_drew)); exact HO_420001.out) (by decide)) hk (fun _ h => h.2)) (fun _ h => h.1)); have n3_ := Aside0.mk (Kd.R_mono (Kd.R_keep (IsS176.apart (show IsS176 w _ g448 t445 t446 t447 from by repeat (first | (with_reducible first | exact HI448.out | apply IsS176.alloc | apply IsS176.drewN | apply IsS176.drew | apply IsS176.set_1 | apply IsS176.set_2 | refine IsS176.far ?_ NB448_399.out _ | refine IsS176.far ?_ NB448_409.out _ | refine IsS176.far ?_ NB448_419.out _ | refine IsS176.far ?_ NB448_425.out _ | refine IsS176.far ?_ NB448_431.out _) | exact HI448.out)) (by (with_reducible repeat (first | apply Kd.R_alloc | apply Kd.R_drewN | apply Kd.R_drew)); exact HO_426001.out) (by decide)) hk (fun _ h => h.2)) (fun _ h => h.1)); have n4_ := Aside0.mk (Kd.R_mono (Kd.R_keep (IsS176.apart (show IsS176 w _ g448 t445 t446 t447 from by repeat (first | (with_reducible first | exact HI448.out | apply IsS176.alloc | apply IsS176.drewN | apply IsS176.drew | apply IsS176.set_1 | apply IsS176.set_2 | refine IsS176.far ?_ NB448_399.out _ | refine IsS176.far ?_ NB448_409.out _ | refine IsS176.far ?_ NB448_419.out _ | refine IsS176.far ?_ NB448_425.out _ | refine IsS176.far ?_ NB448_431.out _) | exact HI448.out)) (by (with_reducible repeat (first | apply Kd.R_alloc | apply Kd.R_drewN | apply Kd.R_drew)); exact HO_432001.out) (by decide)) hk (fun _ h => h.2)) (fun _ h => h.1)); have n5_ := Aside0.mk (KeepBut.blk hk (g' := gb399) (o := .cells #[.int .i64 t394, .slice Ao20 t395.length co20] 118 (0, 0)) (by (with_reducible repeat (first | refine blk_drewN ?_ _ | refine blk_drew ?_ | refine blk_alloc ?_ _)); exact BK399.out) NB399_448.out (by simp)); have n6_ := Aside0.mk (KeepBut.blk hk (g' := gb409) (o := .cells #[.int .i64 t404, .slice Ao28 t405.length co28] 118 (0, 0)) (by (with_reducible repeat (first | refine blk_drewN ?_ _ | refine blk_drew ?_ | refine blk_alloc ?_ _)); exact BK409.out) NB409_448.out (by simp)); have n7_ := Aside0.mk (KeepBut.blk hk (g' := gb419) (o := .cells #[.int .i64 t414, .slice Ao37 t415.length co37] 118 (0, 0)) (by (with_reducible repeat (first | refine blk_drewN ?_ _ | refine blk_drew ?_ | refine blk_alloc ?_ _)); exact BK419.out) NB419_448.out (by simp)); have n8_ := Aside0.mk (KeepBut.blk hk (g' := gb425) (o := .cells #[.int .i64 t420, .slice Ao44 t421.length co44] 118 (0, 0)) (by (with_reducible repeat (first | refine blk_drewN ?_ _ | refine blk_drew ?_ | refine blk_alloc ?_ _)); exact BK425.out) NB425_448.out (by simp)); have n9_ := Aside0.mk (KeepBut.blk hk (g' := gb431) (o := .cells #[.int .i64 t426, .slice Ao53 t427.length co53] 118 (0, 0)) (by (with_reducible repeat (first | refine blk_drewN ?_ _ | refine blk_drew ?_ | refine blk_alloc ?_ _)); exact BK431.out) NB431_448.out (by simp)); have n10_ := Aside0.mk (hb); have n11_ := Aside0.mk (hi); clear HO_400001; clear HO_410001; clear HO_420001; clear HO_426001; clear HO_432001; clear BK399; clear BK409; clear BK419; clear BK425; clear BK431; clear HB; clear HI448; have HO_400001 := n0_; have HO_410001 := n1_; have HO_420001 := n2_; have HO_426001 := n3_; have HO_432001 := n4_; have BK399 := n5_; have BK409 := n6_; have BK419 := n7_; have BK425 := n8_; have BK431 := n9_; have HB := n10_; have HI448 := n11_; clear n0_ n1_ n2_ n3_ n4_ n5_ n6_ n7_ n8_ n9_ n10_ n11_; (try clear hb); (try clear hb2); (try clear hk); (try clear hi); have hnb137 := NB425_399.out; have hnc137 := NB399_425.out; have hnb138 := NB425_409.out; have hnc138 := NB409_425.out; have hnb139 := NB425_419.out; have hnc139 := NB419_425.out; have hnb140 := NB425_431.out; have hnc140 := NB431_425.out; have hnb141 := NB425_448.out; have hnc141 := NB448_425.out; have hcz142_0 : w136.cell? ⟨gb425, 0, none⟩ = some (.int .i64 t420) := (blk_cell BK425.out 0).trans rfl; have hcz142_1 : w136.cell? ⟨gb425, 1, none⟩ = some (.slice Ao44 t421.length co44) := (blk_cell BK425.out 1).trans rfl; have hfz142_0 := blk_frozen BK425.out 0; have hfz142_1 := blk_frozen BK425.out 1) | ((with_reducible refine gate_callee (f := 94) rfl ?_); refine goesL_ (some 192) rfl rfl Try.func94 (by kernel_rfl) rfl #[.agg #[.int .i64 t420, .slice Ao44 t421.length co44], .int .i64 t449] rfl (by (try simp only [List.map_toArray, List.map_cons, List.map_nil]); first | done | rfl | (simp only [List.length_drop, List.length_take]; rfl)) ?_; (with_reducible refine (impl_CurrentOf.calls kj97 t420 _ _ t421 t449 t452 t453 _ ?side1 ?side2 A115.out).mono ?_); (case side1 => repeat (first | exact (Kd.R_reads' HO_426001.out).2.2 | (with_reducible refine Kd.C_alloc ?_ _) | (with_reducible refine Kd.C_drewN ?_ _) | (with_reducible refine Kd.C_drew ?_))); (case side2 => exact (Kd.R_reads' HO_426001.out).2.1); rintro e w143 ⟨rfl, hb⟩; refine ⟨_, rfl, ?_⟩; have n0_ := Aside0.mk (Kd.R_below (by (with_reducible repeat (first | apply Kd.R_alloc | apply Kd.R_drewN | apply Kd.R_drew)); exact HO_400001.out) hb); have n1_ := Aside0.mk (Kd.R_below (by (with_reducible repeat (first | apply Kd.R_alloc | apply Kd.R_drewN | apply Kd.R_drew)); exact HO_410001.out) hb); have n2_ := Aside0.mk (Kd.R_below (by (with_reducible repeat (first | apply Kd.R_alloc | apply Kd.R_drewN | apply Kd.R_drew)); exact HO_420001.out) hb); have n3_ := Aside0.mk (Kd.R_below (by (with_reducible repeat (first | apply Kd.R_alloc | apply Kd.R_drewN | apply Kd.R_drew)); exact HO_426001.out) hb); have n4_ := Aside0.mk (Kd.R_below (by (with_reducible repeat (first | apply Kd.R_alloc | apply Kd.R_drewN | apply Kd.R_drew)); exact HO_432001.out) hb); have n5_ := Aside0.mk (blk_below (g := gb399) (o := .cells #[.int .i64 t394, .slice Ao20 t395.length co20] 118 (0, 0)) (by (with_reducible repeat (first | refine blk_drewN ?_ _ | refine blk_drew ?_ | refine blk_alloc ?_ _)); exact BK399.out) hb); have n6_ := Aside0.mk (blk_below (g := gb409) (o := .cells #[.int .i64 t404, .slice Ao28 t405.length co28] 118 (0, 0)) (by (with_reducible repeat (first | refine blk_drewN ?_ _ | refine blk_drew ?_ | refine blk_alloc ?_ _)); exact BK409.out) hb); have n7_ := Aside0.mk (blk_below (g := gb419) (o := .cells #[.int .i64 t414, .slice Ao37 t415.length co37] 118 (0, 0)) (by (with_reducible repeat (first | refine blk_drewN ?_ _ | refine blk_drew ?_ | refine blk_alloc ?_ _)); exact BK419.out) hb); have n8_ := Aside0.mk (blk_below (g := gb425) (o := .cells #[.int .i64 t420, .slice Ao44 t421.length co44] 118 (0, 0)) (by (with_reducible repeat (first | refine blk_drewN ?_ _ | refine blk_drew ?_ | refine blk_alloc ?_ _)); exact BK425.out) hb); have n9_ := Aside0.mk (blk_below (g := gb431) (o := .cells #[.int .i64 t426, .slice Ao53 t427.length co53] 118 (0, 0)) (by (with_reducible repeat (first | refine blk_drewN ?_ _ | refine blk_drew ?_ | refine blk_alloc ?_ _)); exact BK431.out) hb); have n10_ := Aside0.mk (IsS176.below (by repeat (first | (with_reducible first | exact HI448.out | apply IsS176.alloc | apply IsS176.drewN | apply IsS176.drew | apply IsS176.set_1 | apply IsS176.set_2 | refine IsS176.far ?_ NB448_399.out _ | refine IsS176.far ?_ NB448_409.out _ | refine IsS176.far ?_ NB448_419.out _ | refine IsS176.far ?_ NB448_425.out _ | refine IsS176.far ?_ NB448_431.out _) | exact HI448.out)) hb); have n11_ := Aside0.mk (below_step (by repeat (first | (with_reducible first | exact HB.out | apply below_alloc | apply pw_below_drewN | apply below_drew1 | refine below_set ?_ (IsS176.ge HI448.out) | refine below_set ?_ GE399.out | refine below_set ?_ GE409.out | refine below_set ?_ GE419.out | refine below_set ?_ GE425.out | refine below_set ?_ GE431.out) | exact HB.out)) hb); clear HO_400001; clear HO_410001; clear HO_420001; clear HO_426001; clear HO_432001; clear BK399; clear BK409; clear BK419; clear BK425; clear BK431; clear HI448; clear HB; have HO_400001 := n0_; have HO_410001 := n1_; have HO_420001 := n2_; have HO_426001 := n3_; have HO_432001 := n4_; have BK399 := n5_; have BK409 := n6_; have BK419 := n7_; have BK425 := n8_; have BK431 := n9_; have HI448 := n10_; have HB := n11_; clear n0_ n1_ n2_ n3_ n4_ n5_ n6_ n7_ n8_ n9_ n10_ n11_; (try clear hb); (try clear hb2); (try clear hk); (try clear hi); have hnb144 := NB419_399.out; have hnc144 := NB399_419.out; have hnb145 := NB419_409.out; have hnc145 := NB409_419.out; have hnb146 := NB419_431.out; have hnc146 := NB431_419.out; have hnb147 := NB419_448.out; have hnc147 := NB448_419.out; have hcz148_0 : w143.cell? ⟨gb419, 0, none⟩ = some (.int .i64 t414) := (blk_cell BK419.out 0).trans rfl; have hcz148_1 : w143.cell? ⟨gb419, 1, none⟩ = some (.slice Ao37 t415.length co37) := (blk_cell BK419.out 1).trans rfl; have hfz148_0 := blk_frozen BK419.out 0; have hfz148_1 := blk_frozen BK419.out 1) | ((with_reducible refine gate_callee (f := 94) rfl ?_); refine goesL_ (some 198) rfl rfl Try.func94 (by kernel_rfl) rfl #[.agg #[.int .i64 t414, .slice Ao37 t415.length co37], .int .i64 t449] rfl (by (try simp only [List.map_toArray, List.map_cons, List.map_nil]); first | done | rfl | (simp only [List.length_drop, List.length_take]; rfl)) ?_; (with_reducible refine (impl_CurrentOf.calls kj97 t414 _ _ t415 t449 t454 t455 _ ?side1 ?side2 A116.out).mono ?_); (case side1 => repeat (first | exact (Kd.R_reads' HO_420001.out).2.2 | (with_reducible refine Kd.C_alloc ?_ _) | (with_reducible refine Kd.C_drewN ?_ _) | (with_reducible refine Kd.C_drew ?_))); (case side2 => exact (Kd.R_reads' HO_420001.out).2.1); rintro e w149 ⟨rfl, hb⟩; refine ⟨_, rfl, ?_⟩; have n0_ := Aside0.mk (Kd.R_below (by (with_reducible repeat (first | apply Kd.R_alloc | apply Kd.R_drewN | apply Kd.R_drew)); exact HO_400001.out) hb); have n1_ := Aside0.mk (Kd.R_below (by (with_reducible repeat (first | apply Kd.R_alloc | apply Kd.R_drewN | apply Kd.R_drew)); exact HO_410001.out) hb); have n2_ := Aside0.mk (Kd.R_below (by (with_reducible repeat (first | apply Kd.R_alloc | apply Kd.R_drewN | apply Kd.R_drew)); exact HO_420001.out) hb); have n3_ := Aside0.mk (Kd.R_below (by (with_reducible repeat (first | apply Kd.R_alloc | apply Kd.R_drewN | apply Kd.R_drew)); exact HO_426001.out) hb); have n4_ := Aside0.mk (Kd.R_below (by (with_reducible repeat (first | apply Kd.R_alloc | apply Kd.R_drewN | apply Kd.R_drew)); exact HO_432001.out) hb); have n5_ := Aside0.mk (blk_below (g := gb399) (o := .cells #[.int .i64 t394, .slice Ao20 t395.length co20] 118 (0, 0)) (by (with_reducible repeat (first | refine blk_drewN ?_ _ | refine blk_drew ?_ | refine blk_alloc ?_ _)); exact BK399.out) hb); have n6_ := Aside0.mk (blk_below (g := gb409) (o := .cells #[.int .i64 t404, .slice Ao28 t405.length co28] 118 (0, 0)) (by (with_reducible repeat (first | refine blk_drewN ?_ _ | refine blk_drew ?_ | refine blk_alloc ?_ _)); exact BK409.out) hb); have n7_ := Aside0.mk (blk_below (g := gb419) (o := .cells #[.int .i64 t414, .slice Ao37 t415.length co37] 118 (0, 0)) (by (with_reducible repeat (first | refine blk_drewN ?_ _ | refine blk_drew ?_ | refine blk_alloc ?_ _)); exact BK419.out) hb); have n8_ := Aside0.mk (blk_below (g := gb425) (o := .cells #[.int .i64 t420, .slice Ao44 t421.length co44] 118 (0, 0)) (by (with_reducible repeat (first | refine blk_drewN ?_ _ | refine blk_drew ?_ | refine blk_alloc ?_ _)); exact BK425.out) hb); have n9_ := Aside0.mk (blk_below (g := gb431) (o := .cells #[.int .i64 t426, .slice Ao53 t427.length co53] 118 (0, 0)) (by (with_reducible repeat (first | refine blk_drewN ?_ _ | refine blk_drew ?_ | refine blk_alloc ?_ _)); exact BK431.out) hb); have n10_ := Aside0.mk (IsS176.below (by repeat (first | (with_reducible first | exact HI448.out | apply IsS176.alloc | apply IsS176.drewN | apply IsS176.drew | apply IsS176.set_1 | apply IsS176.set_2 | refine IsS176.far ?_ NB448_399.out _ | refine IsS176.far ?_ NB448_409.out _ | refine IsS176.far ?_ NB448_419.out _ | refine IsS176.far ?_ NB448_425.out _ | refine IsS176.far ?_ NB448_431.out _) | exact HI448.out)) hb); have n11_ := Aside0.mk (below_step (by repeat (first | (with_reducible first | exact HB.out | apply below_alloc | apply pw_below_drewN | apply below_drew1 | refine below_set ?_ (IsS176.ge HI448.out) | refine below_set ?_ GE399.out | refine below_set ?_ GE409.out | refine below_set ?_ GE419.out | refine below_set ?_ GE425.out | refine below_set ?_ GE431.out) | exact HB.out)) hb); clear HO_400001; clear HO_410001; clear HO_420001; clear HO_426001; clear HO_432001; clear BK399; clear BK409; clear BK419; clear BK425; clear BK431; clear HI448; clear HB; have HO_400001 := n0_; have HO_410001 := n1_; have HO_420001 := n2_; have HO_426001 := n3_; have HO_432001 := n4_; have BK399 := n5_; have BK409 := n6_; have BK419 := n7_; have BK425 := n8_; have BK431 := n9_; have HI448 := n10_; have HB := n11_; clear n0_ n1_ n2_ n3_ n4_ n5_ n6_ n7_ n8_ n9_ n10_ n11_; (try clear hb); (try clear hb2); (try clear hk); (try clear hi)))
             go_meet
             case rel => exact ⟨_, H', ⟨by have := HJ15.out; have := HJ97.out; first | omega | exact Nat.le_refl _⟩, ⟨by (with_reducible repeat (first | apply Kd.R_alloc | apply Kd.R_drewN | apply Kd.R_drew)); exact HO_400001.out⟩, ⟨by (with_reducible repeat (first | apply Kd.R_alloc | apply Kd.R_drewN | apply Kd.R_drew)); exact HO_410001.out⟩, ⟨by (with_reducible repeat (first | apply Kd.R_alloc | apply Kd.R_drewN | apply Kd.R_drew)); exact HO_420001.out⟩, ⟨by (with_reducible repeat (first | apply Kd.R_alloc | apply Kd.R_drewN | apply Kd.R_drew)); exact HO_426001.out⟩, ⟨by (with_reducible repeat (first | apply Kd.R_alloc | apply Kd.R_drewN | apply Kd.R_drew)); exact HO_432001.out⟩, ⟨by (with_reducible repeat (first | refine blk_drewN ?_ _ | refine blk_drew ?_ | refine blk_alloc ?_ _)); exact BK399.out⟩, ⟨by (with_reducible repeat (first | refine blk_drewN ?_ _ | refine blk_drew ?_ | refine blk_alloc ?_ _)); exact BK409.out⟩, ⟨by (with_reducible repeat (first | refine blk_drewN ?_ _ | refine blk_drew ?_ | refine blk_alloc ?_ _)); exact BK419.out⟩, ⟨by (with_reducible repeat (first | refine blk_drewN ?_ _ | refine blk_drew ?_ | refine blk_alloc ?_ _)); exact BK425.out⟩, ⟨by (with_reducible repeat (first | refine blk_drewN ?_ _ | refine blk_drew ?_ | refine blk_alloc ?_ _)); exact BK431.out⟩, ⟨by repeat (first | (with_reducible first | exact HB.out | apply below_alloc | apply pw_below_drewN | apply below_drew1 | refine below_set ?_ (IsS176.ge HI448.out) | refine below_set ?_ GE399.out | refine below_set ?_ GE409.out | refine below_set ?_ GE419.out | refine below_set ?_ GE425.out | refine below_set ?_ GE431.out) | exact HB.out)⟩⟩
         ·rw [if_neg c95] at H
          have c95b0 : (t424 == 0) = false := beq_eq_false_iff_ne.mpr c95
          have c95b1 : (t424 != 0) = true := bne_iff_ne.mpr c95
          (first | rw [c95b0] | (simp only [i64_w, i32_w]; rw [c95b0]) | skip)
          have H' := Aside0.mk H
          clear H
          go_wp2
          go_meet
          case rel => exact ⟨_, H', ⟨by have := HJ15.out; first | omega | exact Nat.le_refl _⟩, ⟨by (with_reducible repeat (first | apply Kd.R_alloc | apply Kd.R_drewN | apply Kd.R_drew)); exact HO_400001.out⟩, ⟨by (with_reducible repeat (first | apply Kd.R_alloc | apply Kd.R_drewN | apply Kd.R_drew)); exact HO_410001.out⟩, ⟨by (with_reducible repeat (first | apply Kd.R_alloc | apply Kd.R_drewN | apply Kd.R_drew)); exact HO_420001.out⟩, ⟨by (with_reducible repeat (first | apply Kd.R_alloc | apply Kd.R_drewN | apply Kd.R_drew)); exact HO_426001.out⟩, ⟨by (with_reducible repeat (first | apply Kd.R_alloc | apply Kd.R_drewN | apply Kd.R_drew)); exact HO_432001.out⟩, ⟨by (with_reducible repeat (first | refine blk_drewN ?_ _ | refine blk_drew ?_ | refine blk_alloc ?_ _)); exact BK399.out⟩, ⟨by (with_reducible repeat (first | refine blk_drewN ?_ _ | refine blk_drew ?_ | refine blk_alloc ?_ _)); exact BK409.out⟩, ⟨by (with_reducible repeat (first | refine blk_drewN ?_ _ | refine blk_drew ?_ | refine blk_alloc ?_ _)); exact BK419.out⟩, ⟨by (with_reducible repeat (first | refine blk_drewN ?_ _ | refine blk_drew ?_ | refine blk_alloc ?_ _)); exact BK425.out⟩, ⟨by (with_reducible repeat (first | refine blk_drewN ?_ _ | refine blk_drew ?_ | refine blk_alloc ?_ _)); exact BK431.out⟩, ⟨by repeat (first | (with_reducible first | exact HB.out | apply below_alloc | apply pw_below_drewN | apply below_drew1 | refine below_set ?_ GE399.out | refine below_set ?_ GE409.out | refine below_set ?_ GE419.out | refine below_set ?_ GE425.out | refine below_set ?_ GE431.out) | exact HB.out)⟩⟩
       case rest =>
        as_aux_lemma =>
         clear HC94
         try clear c1
         try clear c2
         try clear p2
         try clear c3
         try clear c4
         try clear c5
         try clear c6
         try clear p6
         try clear c7
         try clear c8
         try clear c9
         try clear c10
         try clear c11
         try clear c12
         try clear c13
         try clear c14
         try clear c15
         try clear c16
         try clear c17
         try clear c26
         try clear c29
         try clear c34
         try clear c35
         try clear c40
         try clear c41
         try clear c42
         try clear c48
         try clear c49
         try clear c50
         try clear c51
         try clear c55
         try clear c55b0
         try clear c55b1
         try clear c56
         try clear c56b0
         try clear c56b1
         try clear c57
         try clear c57b0
         try clear c57b1
         try clear c58
         try clear c58b0
         try clear c58b1
         try clear c59
         try clear c59b0
         try clear c59b1
         try clear c61
         try clear c62
         try clear c62b0
         try clear c62b1
         try clear c63
         try clear c64
         try clear p64
         try clear c65
         try clear c66
         try clear c68
         try clear c69
         try clear c70
         try clear c73
         try clear c74
         try clear c75
         try clear c76
         try clear c78
         try clear c79
         try clear c80
         try clear c83
         try clear c84
         try clear c85
         try clear c86
         try clear c88
         try clear c89
         try clear c90
         try clear c91
         try clear c92
         try clear c93
         try clear c94
         try clear c95
         try clear c95b0
         try clear c95b1
         try clear c96
         try clear c97
         try clear c98
         try clear c99
         try clear c100
         try clear c101
         try clear c102
         try clear c103
         try clear c105
         try clear c106
         try clear c107
         try clear c110
         try clear c110b0
         try clear c110b1
         try clear c111
         try clear c111b0
         try clear c111b1
         try clear c112
         try clear c117
         try clear c117b0
         try clear c117b1
         try clear c118
         try clear c118b0
         try clear c118b1
         try clear c119
         try clear c119b0
         try clear c122
         try clear c123
         try clear c124
         try clear c125
         try clear c126
         try clear c129
         try clear c130
         try clear c131
         try clear c132
         try clear c137
         try clear c138
         try clear c139
         try clear c140
         try clear c141
         try clear c144
         try clear c145
         try clear c146
         try clear c147
         try clear c152
         try clear c153
         try clear c154
         try clear c155
         try clear c156
         try clear c159
         try clear c160
         try clear c161
         try clear c162
         try clear c167
         try clear c168
         try clear c169
         try clear c170
         try clear c171
         try clear c174
         try clear c175
         try clear c176
         try clear c177
         try clear hcz103_0
         try clear hcz103_1
         try clear hcz108_0
         try clear hcz108_1
         try clear hcz127_0
         try clear hcz127_1
         try clear hcz133_0
         try clear hcz133_1
         try clear hcz142_0
         try clear hcz142_1
         try clear hcz148_0
         try clear hcz148_1
         try clear hcz157_0
         try clear hcz157_1
         try clear hcz163_0
         try clear hcz163_1
         try clear hcz172_0
         try clear hcz172_1
         try clear hcz178_0
         try clear hcz178_1
         try clear hcz19_0
         try clear hcz19_1
         try clear hcz22_0
         try clear hcz22_1
         try clear hcz27_0
         try clear hcz27_1
         try clear hcz30_0
         try clear hcz30_1
         try clear hcz36_0
         try clear hcz36_1
         try clear hcz43_0
         try clear hcz43_1
         try clear hcz45_0
         try clear hcz45_1
         try clear hcz52_0
         try clear hcz52_1
         try clear hcz67_0
         try clear hcz67_1
         try clear hcz71_0
         try clear hcz71_1
         try clear hcz77_0
         try clear hcz77_1
         try clear hcz81_0
         try clear hcz81_1
         try clear hcz87_0
         try clear hcz87_1
         try clear hcz91_0
         try clear hcz91_1
         try clear hfz103_0
         try clear hfz103_1
         try clear hfz108_0
         try clear hfz108_1
         try clear hfz127_0
         try clear hfz127_1
         try clear hfz133_0
         try clear hfz133_1
         try clear hfz142_0
         try clear hfz142_1
         try clear hfz148_0
         try clear hfz148_1
         try clear hfz157_0
         try clear hfz157_1
         try clear hfz163_0
         try clear hfz163_1
         try clear hfz172_0
         try clear hfz172_1
         try clear hfz178_0
         try clear hfz178_1
         try clear hfz19_0
         try clear hfz19_1
         try clear hfz22_0
         try clear hfz22_1
         try clear hfz27_0
         try clear hfz27_1
         try clear hfz30_0
         try clear hfz30_1
         try clear hfz36_0
         try clear hfz36_1
         try clear hfz43_0
         try clear hfz43_1
         try clear hfz45_0
         try clear hfz45_1
         try clear hfz52_0
         try clear hfz52_1
         try clear hfz67_0
         try clear hfz67_1
         try clear hfz71_0
         try clear hfz71_1
         try clear hfz77_0
         try clear hfz77_1
         try clear hfz81_0
         try clear hfz81_1
         try clear hfz87_0
         try clear hfz87_1
         try clear hfz91_0
         try clear hfz91_1
         try clear p2
         try clear p6
         try clear p64
         obtain ⟨kq, HA, HJ93, HO_400001, HO_410001, HO_420001, HO_426001, HO_432001, BK399, BK409, BK419, BK425, BK431, HB⟩ := hcut
         cases kq with
         | zero => exact absurd HA.out (by simp [laws_FnCurrents.j2])
         | succ kj93 =>
          have H := HA.out
          clear HA
          simp only [laws_FnCurrents.j2] at H
          have HC180 := Aside0.mk H
          clear H
          go_upto_if 213 with (fail)
          go_cut [] (fun wc => ∃ (kq : Nat), Aside0 (laws_FnCurrents.j4 kq t398 t400 t401 t394 t395 = some r) ∧ Aside0 (kq ≤ kj93) ∧ Aside0 (Kd.R (Kd.int .i64) 2 wc w.heap.size (fun k_ => some k_ ≠ ((.slice Ao28 t405.length co28) : Value).ownBlock ∧ some k_ ≠ ((.slice Ao37 t415.length co37) : Value).ownBlock ∧ some k_ ≠ ((.slice Ao44 t421.length co44) : Value).ownBlock ∧ some k_ ≠ ((.slice Ao53 t427.length co53) : Value).ownBlock) (.slice Ao20 t395.length co20) t395) ∧ Aside0 (Kd.R (Kd.int .i64) 2 wc w.heap.size (fun k_ => some k_ ≠ ((.slice Ao20 t395.length co20) : Value).ownBlock ∧ some k_ ≠ ((.slice Ao37 t415.length co37) : Value).ownBlock ∧ some k_ ≠ ((.slice Ao44 t421.length co44) : Value).ownBlock ∧ some k_ ≠ ((.slice Ao53 t427.length co53) : Value).ownBlock) (.slice Ao28 t405.length co28) t405) ∧ Aside0 (Kd.R (Kd.int .i64) 2 wc w.heap.size (fun k_ => some k_ ≠ ((.slice Ao20 t395.length co20) : Value).ownBlock ∧ some k_ ≠ ((.slice Ao28 t405.length co28) : Value).ownBlock ∧ some k_ ≠ ((.slice Ao44 t421.length co44) : Value).ownBlock ∧ some k_ ≠ ((.slice Ao53 t427.length co53) : Value).ownBlock) (.slice Ao37 t415.length co37) t415) ∧ Aside0 (Kd.R (Kd.int .i64) 2 wc w.heap.size (fun k_ => some k_ ≠ ((.slice Ao20 t395.length co20) : Value).ownBlock ∧ some k_ ≠ ((.slice Ao28 t405.length co28) : Value).ownBlock ∧ some k_ ≠ ((.slice Ao37 t415.length co37) : Value).ownBlock ∧ some k_ ≠ ((.slice Ao53 t427.length co53) : Value).ownBlock) (.slice Ao44 t421.length co44) t421) ∧ Aside0 (Kd.R (Kd.int .i64) 2 wc w.heap.size (fun k_ => some k_ ≠ ((.slice Ao20 t395.length co20) : Value).ownBlock ∧ some k_ ≠ ((.slice Ao28 t405.length co28) : Value).ownBlock ∧ some k_ ≠ ((.slice Ao37 t415.length co37) : Value).ownBlock ∧ some k_ ≠ ((.slice Ao44 t421.length co44) : Value).ownBlock) (.slice Ao53 t427.length co53) t427) ∧ Aside0 (wc.heap[gb399]? = some (.cells #[.int .i64 t394, (.slice Ao20 t395.length co20)] 118 (0, 0))) ∧ Aside0 (wc.heap[gb409]? = some (.cells #[.int .i64 t404, (.slice Ao28 t405.length co28)] 118 (0, 0))) ∧ Aside0 (wc.heap[gb419]? = some (.cells #[.int .i64 t414, (.slice Ao37 t415.length co37)] 118 (0, 0))) ∧ Aside0 (wc.heap[gb425]? = some (.cells #[.int .i64 t420, (.slice Ao44 t421.length co44)] 118 (0, 0))) ∧ Aside0 (wc.heap[gb431]? = some (.cells #[.int .i64 t426, (.slice Ao53 t427.length co53)] 118 (0, 0))) ∧ Aside0 (Below w.heap.size w wc))
          case first =>
           as_aux_lemma =>
            have H := HC180.out
            clear HC180
            by_cases c181 : t437 = 0
            ·rw [if_pos c181] at H
             have c181b0 : (t437 == 0) = true := beq_iff_eq.mpr c181
             have c181b1 : (t437 != 0) = false := bne_eq_false_iff_eq.mpr c181
             clear c181
             (first | rw [c181b0] | (simp only [i64_w, i32_w]; rw [c181b0]) | skip)
             obtain ⟨y456, hy456⟩ : ∃ y_ : List Int, y_ = (([] : List Int)) := ⟨_, rfl⟩
             replace H : (laws_FnCurrents.l0 kj93 t398 t400 t401 t433 t434 t435 t438 0 t394 t395 t432 y456) = some r := by first | (rw [hy456]; with_reducible exact H) | (have H2_ := (Option.bind_some _ _).symm.trans H; rw [hy456]; with_reducible exact H2_) | (have H2_ := (Option.bind_some _ _).symm.trans H; with_reducible exact H2_) | with_reducible exact H | (rw [hy456]; exact H) | exact H
             have Ny456 := Aside0.mk hy456
             clear hy456
             have H' := Aside0.mk H
             clear H
             go_wp2_with (first | ((with_reducible refine gate_dst (N := 215) rfl ?_); refine Kd.R_lit (Kd.int .i64) _ 2 ?hg (N := 215) ?hd (xs := ([] : List Int)) (inner := []) (ok := fun _ => True) (okp := fun _ => True) ?hr ?hp (fun _ hk => hk) trivial (Below.refl _ _) (Nat.le_refl _) (by simp) ?_; (case hd => rfl); (case hg => rfl); (case hr => first | (go_simp; done) | (go_simp; rfl)); (case hp => exact (Reps.none _ _)); intro v457 w182 ho183 hb hg_ hnew_; clear hg_ hnew_; (first | rw [← Ny456.out] at ho183 | (simp only [Int.reduceToNat] at ho183; rw [← Ny456.out] at ho183)); have n0_ := Aside0.mk (Kd.R_elder' (by (with_reducible repeat (first | apply Kd.R_alloc | apply Kd.R_drewN | apply Kd.R_drew)); exact HO_400001.out) (Kd.R_base ho183) hb); have n1_ := Aside0.mk (Kd.R_elder' (by (with_reducible repeat (first | apply Kd.R_alloc | apply Kd.R_drewN | apply Kd.R_drew)); exact HO_410001.out) (Kd.R_base ho183) hb); have n2_ := Aside0.mk (Kd.R_elder' (by (with_reducible repeat (first | apply Kd.R_alloc | apply Kd.R_drewN | apply Kd.R_drew)); exact HO_420001.out) (Kd.R_base ho183) hb); have n3_ := Aside0.mk (Kd.R_elder' (by (with_reducible repeat (first | apply Kd.R_alloc | apply Kd.R_drewN | apply Kd.R_drew)); exact HO_426001.out) (Kd.R_base ho183) hb); have n4_ := Aside0.mk (Kd.R_elder' (by (with_reducible repeat (first | apply Kd.R_alloc | apply Kd.R_drewN | apply Kd.R_drew)); exact HO_432001.out) (Kd.R_base ho183) hb); have n5_ := Aside0.mk (Kd.R_lower (Kd.R_new' (Kd.R_new' (Kd.R_new' (Kd.R_new' (Kd.R_new' ho183 (Kd.R_lt (by (with_reducible repeat (first | apply Kd.R_alloc | apply Kd.R_drewN | apply Kd.R_drew)); exact HO_400001.out))) (Kd.R_lt (by (with_reducible repeat (first | apply Kd.R_alloc | apply Kd.R_drewN | apply Kd.R_drew)); exact HO_410001.out))) (Kd.R_lt (by (with_reducible repeat (first | apply Kd.R_alloc | apply Kd.R_drewN | apply Kd.R_drew)); exact HO_420001.out))) (Kd.R_lt (by (with_reducible repeat (first | apply Kd.R_alloc | apply Kd.R_drewN | apply Kd.R_drew)); exact HO_426001.out))) (Kd.R_lt (by (with_reducible repeat (first | apply Kd.R_alloc | apply Kd.R_drewN | apply Kd.R_drew)); exact HO_432001.out))) (below_size (by repeat (first | (with_reducible first | exact HB.out | apply below_alloc | apply pw_below_drewN | apply below_drew1 | refine below_set ?_ GE399.out | refine below_set ?_ GE409.out | refine below_set ?_ GE419.out | refine below_set ?_ GE425.out | refine below_set ?_ GE431.out) | exact HB.out)))); have n6_ := Aside0.mk (blk_below (g := gb399) (o := .cells #[.int .i64 t394, .slice Ao20 t395.length co20] 118 (0, 0)) (by (with_reducible repeat (first | refine blk_drewN ?_ _ | refine blk_drew ?_ | refine blk_alloc ?_ _)); exact BK399.out) hb); have n7_ := Aside0.mk (blk_below (g := gb409) (o := .cells #[.int .i64 t404, .slice Ao28 t405.length co28] 118 (0, 0)) (by (with_reducible repeat (first | refine blk_drewN ?_ _ | refine blk_drew ?_ | refine blk_alloc ?_ _)); exact BK409.out) hb); have n8_ := Aside0.mk (blk_below (g := gb419) (o := .cells #[.int .i64 t414, .slice Ao37 t415.length co37] 118 (0, 0)) (by (with_reducible repeat (first | refine blk_drewN ?_ _ | refine blk_drew ?_ | refine blk_alloc ?_ _)); exact BK419.out) hb); have n9_ := Aside0.mk (blk_below (g := gb425) (o := .cells #[.int .i64 t420, .slice Ao44 t421.length co44] 118 (0, 0)) (by (with_reducible repeat (first | refine blk_drewN ?_ _ | refine blk_drew ?_ | refine blk_alloc ?_ _)); exact BK425.out) hb); have n10_ := Aside0.mk (blk_below (g := gb431) (o := .cells #[.int .i64 t426, .slice Ao53 t427.length co53] 118 (0, 0)) (by (with_reducible repeat (first | refine blk_drewN ?_ _ | refine blk_drew ?_ | refine blk_alloc ?_ _)); exact BK431.out) hb); have n11_ := Aside0.mk (below_step (by repeat (first | (with_reducible first | exact HB.out | apply below_alloc | apply pw_below_drewN | apply below_drew1 | refine below_set ?_ GE399.out | refine below_set ?_ GE409.out | refine below_set ?_ GE419.out | refine below_set ?_ GE425.out | refine below_set ?_ GE431.out) | exact HB.out)) hb); clear HO_400001; clear HO_410001; clear HO_420001; clear HO_426001; clear HO_432001; clear BK399; clear BK409; clear BK419; clear BK425; clear BK431; clear HB; have HO_400001 := n0_; have HO_410001 := n1_; have HO_420001 := n2_; have HO_426001 := n3_; have HO_432001 := n4_; have HO458 := n5_; have BK399 := n6_; have BK409 := n7_; have BK419 := n8_; have BK425 := n9_; have BK431 := n10_; have HB := n11_; clear n0_ n1_ n2_ n3_ n4_ n5_ n6_ n7_ n8_ n9_ n10_ n11_; clear hb ho183; obtain ⟨Ao184, co184, eo184⟩ := Kd.R_slice HO458.out; subst eo184) | ((with_reducible refine gate_dst (N := 38) rfl ?_); refine box_event ?hg (N := 38) ?hd (cs := #[.int .i64 0, .slice none 0 0]) (t := 118) ?hr ?_; (case hd => rfl); (case hg => rfl); (case hr => first | (go_simp; done) | (go_simp; rfl)); intro gb459 hg w185 hbox hb; have n0_ := Aside0.mk (Kd.R_below (by (with_reducible repeat (first | apply Kd.R_alloc | apply Kd.R_drewN | apply Kd.R_drew)); exact HO_400001.out) hb); have n1_ := Aside0.mk (Kd.R_below (by (with_reducible repeat (first | apply Kd.R_alloc | apply Kd.R_drewN | apply Kd.R_drew)); exact HO_410001.out) hb); have n2_ := Aside0.mk (Kd.R_below (by (with_reducible repeat (first | apply Kd.R_alloc | apply Kd.R_drewN | apply Kd.R_drew)); exact HO_420001.out) hb); have n3_ := Aside0.mk (Kd.R_below (by (with_reducible repeat (first | apply Kd.R_alloc | apply Kd.R_drewN | apply Kd.R_drew)); exact HO_426001.out) hb); have n4_ := Aside0.mk (Kd.R_below (by (with_reducible repeat (first | apply Kd.R_alloc | apply Kd.R_drewN | apply Kd.R_drew)); exact HO_432001.out) hb); have n5_ := Aside0.mk (Kd.R_below (by (with_reducible repeat (first | apply Kd.R_alloc | apply Kd.R_drewN | apply Kd.R_drew)); exact HO458.out) hb); have n6_ := Aside0.mk (blk_below (g := gb399) (o := .cells #[.int .i64 t394, .slice Ao20 t395.length co20] 118 (0, 0)) (by (with_reducible repeat (first | refine blk_drewN ?_ _ | refine blk_drew ?_ | refine blk_alloc ?_ _)); exact BK399.out) hb); have n7_ := Aside0.mk (blk_below (g := gb409) (o := .cells #[.int .i64 t404, .slice Ao28 t405.length co28] 118 (0, 0)) (by (with_reducible repeat (first | refine blk_drewN ?_ _ | refine blk_drew ?_ | refine blk_alloc ?_ _)); exact BK409.out) hb); have n8_ := Aside0.mk (blk_below (g := gb419) (o := .cells #[.int .i64 t414, .slice Ao37 t415.length co37] 118 (0, 0)) (by (with_reducible repeat (first | refine blk_drewN ?_ _ | refine blk_drew ?_ | refine blk_alloc ?_ _)); exact BK419.out) hb); have n9_ := Aside0.mk (blk_below (g := gb425) (o := .cells #[.int .i64 t420, .slice Ao44 t421.length co44] 118 (0, 0)) (by (with_reducible repeat (first | refine blk_drewN ?_ _ | refine blk_drew ?_ | refine blk_alloc ?_ _)); exact BK425.out) hb); have n10_ := Aside0.mk (blk_below (g := gb431) (o := .cells #[.int .i64 t426, .slice Ao53 t427.length co53] 118 (0, 0)) (by (with_reducible repeat (first | refine blk_drewN ?_ _ | refine blk_drew ?_ | refine blk_alloc ?_ _)); exact BK431.out) hb); have n11_ := Aside0.mk (below_step (by repeat (first | (with_reducible first | exact HB.out | apply below_alloc | apply pw_below_drewN | apply below_drew1 | refine below_set ?_ GE399.out | refine below_set ?_ GE409.out | refine below_set ?_ GE419.out | refine below_set ?_ GE425.out | refine below_set ?_ GE431.out) | exact HB.out)) hb); have n12_ := Aside0.mk (hbox); have n13_ := Aside0.mk ((by rw [hg]; exact (below_size (by repeat (first | (with_reducible first | exact HB.out | apply below_alloc | apply pw_below_drewN | apply below_drew1 | refine below_set ?_ GE399.out | refine below_set ?_ GE409.out | refine below_set ?_ GE419.out | refine below_set ?_ GE425.out | refine below_set ?_ GE431.out) | exact HB.out))) : w.heap.size ≤ gb459)); have n14_ := Aside0.mk ((by rw [hg]; exact (below_size (by repeat (first | (with_reducible first | exact HB.out | apply below_alloc | apply pw_below_drewN | apply below_drew1 | refine below_set ?_ GE399.out | refine below_set ?_ GE409.out | refine below_set ?_ GE419.out | refine below_set ?_ GE425.out | refine below_set ?_ GE431.out) | exact HB.out))) : w.heap.size ≤ gb459)); have n15_ := Aside0.mk ((by rw [hg]; exact Nat.ne_of_lt (blk_lt (g := gb399) (o := .cells #[.int .i64 t394, .slice Ao20 t395.length co20] 118 (0, 0)) (by (with_reducible repeat (first | refine blk_drewN ?_ _ | refine blk_drew ?_ | refine blk_alloc ?_ _)); exact BK399.out)) : gb399 ≠ gb459)); have n16_ := Aside0.mk ((by rw [hg]; exact Nat.ne_of_gt (blk_lt (g := gb399) (o := .cells #[.int .i64 t394, .slice Ao20 t395.length co20] 118 (0, 0)) (by (with_reducible repeat (first | refine blk_drewN ?_ _ | refine blk_drew ?_ | refine blk_alloc ?_ _)); exact BK399.out)) : gb459 ≠ gb399)); have n17_ := Aside0.mk ((by rw [hg]; exact Nat.ne_of_lt (blk_lt (g := gb409) (o := .cells #[.int .i64 t404, .slice Ao28 t405.length co28] 118 (0, 0)) (by (with_reducible repeat (first | refine blk_drewN ?_ _ | refine blk_drew ?_ | refine blk_alloc ?_ _)); exact BK409.out)) : gb409 ≠ gb459)); have n18_ := Aside0.mk ((by rw [hg]; exact Nat.ne_of_gt (blk_lt (g := gb409) (o := .cells #[.int .i64 t404, .slice Ao28 t405.length co28] 118 (0, 0)) (by (with_reducible repeat (first | refine blk_drewN ?_ _ | refine blk_drew ?_ | refine blk_alloc ?_ _)); exact BK409.out)) : gb459 ≠ gb409)); have n19_ := Aside0.mk ((by rw [hg]; exact Nat.ne_of_lt (blk_lt (g := gb419) (o := .cells #[.int .i64 t414, .slice Ao37 t415.length co37] 118 (0, 0)) (by (with_reducible repeat (first | refine blk_drewN ?_ _ | refine blk_drew ?_ | refine blk_alloc ?_ _)); exact BK419.out)) : gb419 ≠ gb459)); have n20_ := Aside0.mk ((by rw [hg]; exact Nat.ne_of_gt (blk_lt (g := gb419) (o := .cells #[.int .i64 t414, .slice Ao37 t415.length co37] 118 (0, 0)) (by (with_reducible repeat (first | refine blk_drewN ?_ _ | refine blk_drew ?_ | refine blk_alloc ?_ _)); exact BK419.out)) : gb459 ≠ gb419)); have n21_ := Aside0.mk ((by rw [hg]; exact Nat.ne_of_lt (blk_lt (g := gb425) (o := .cells #[.int .i64 t420, .slice Ao44 t421.length co44] 118 (0, 0)) (by (with_reducible repeat (first | refine blk_drewN ?_ _ | refine blk_drew ?_ | refine blk_alloc ?_ _)); exact BK425.out)) : gb425 ≠ gb459)); have n22_ := Aside0.mk ((by rw [hg]; exact Nat.ne_of_gt (blk_lt (g := gb425) (o := .cells #[.int .i64 t420, .slice Ao44 t421.length co44] 118 (0, 0)) (by (with_reducible repeat (first | refine blk_drewN ?_ _ | refine blk_drew ?_ | refine blk_alloc ?_ _)); exact BK425.out)) : gb459 ≠ gb425)); have n23_ := Aside0.mk ((by rw [hg]; exact Nat.ne_of_lt (blk_lt (g := gb431) (o := .cells #[.int .i64 t426, .slice Ao53 t427.length co53] 118 (0, 0)) (by (with_reducible repeat (first | refine blk_drewN ?_ _ | refine blk_drew ?_ | refine blk_alloc ?_ _)); exact BK431.out)) : gb431 ≠ gb459)); have n24_ := Aside0.mk ((by rw [hg]; exact Nat.ne_of_gt (blk_lt (g := gb431) (o := .cells #[.int .i64 t426, .slice Ao53 t427.length co53] 118 (0, 0)) (by (with_reducible repeat (first | refine blk_drewN ?_ _ | refine blk_drew ?_ | refine blk_alloc ?_ _)); exact BK431.out)) : gb459 ≠ gb431)); clear HO_400001; clear HO_410001; clear HO_420001; clear HO_426001; clear HO_432001; clear HO458; clear BK399; clear BK409; clear BK419; clear BK425; clear BK431; clear HB; have HO_400001 := n0_; have HO_410001 := n1_; have HO_420001 := n2_; have HO_426001 := n3_; have HO_432001 := n4_; have HO458 := n5_; have BK399 := n6_; have BK409 := n7_; have BK419 := n8_; have BK425 := n9_; have BK431 := n10_; have HB := n11_; have BK459 := n12_; have GW459 := n13_; have GE459 := n14_; have NB399_459 := n15_; have NB459_399 := n16_; have NB409_459 := n17_; have NB459_409 := n18_; have NB419_459 := n19_; have NB459_419 := n20_; have NB425_459 := n21_; have NB459_425 := n22_; have NB431_459 := n23_; have NB459_431 := n24_; clear n0_ n1_ n2_ n3_ n4_ n5_ n6_ n7_ n8_ n9_ n10_ n11_ n12_ n13_ n14_ n15_ n16_ n17_ n18_ n19_ n20_ n21_ n22_ n23_ n24_; clear hb hbox hg; have hnb186 := NB459_399.out; have hnc186 := NB399_459.out; have hnb187 := NB459_409.out; have hnc187 := NB409_459.out; have hnb188 := NB459_419.out; have hnc188 := NB419_459.out; have hnb189 := NB459_425.out; have hnc189 := NB425_459.out; have hnb190 := NB459_431.out; have hnc190 := NB431_459.out; have hcz191_0 : w185.cell? ⟨gb459, 0, none⟩ = some (.int .i64 0) := (blk_cell BK459.out 0).trans rfl; have hcz191_1 : w185.cell? ⟨gb459, 1, none⟩ = some (.slice none 0 0) := (blk_cell BK459.out 1).trans rfl; have hfz191_0 := blk_frozen BK459.out 0; have hfz191_1 := blk_frozen BK459.out 1))
             go_loopg [39] kj93 (fun kq v39 w' => ∃ (x39_3 : Int) (x460001_3 : List Int) (u460001 : Value), v39 = .int .i64 x39_3 ∧ Aside0 (laws_FnCurrents.l0 kq t398 t400 t401 t433 t434 t435 t438 x39_3 t394 t395 t432 x460001_3 = some r) ∧ Aside0 (kq ≤ kj93) ∧ Aside0 (Kd.R (Kd.int .i64) 2 w' w.heap.size (fun k_ => some k_ ≠ ((.slice Ao28 t405.length co28) : Value).ownBlock ∧ some k_ ≠ ((.slice Ao37 t415.length co37) : Value).ownBlock ∧ some k_ ≠ ((.slice Ao44 t421.length co44) : Value).ownBlock ∧ some k_ ≠ ((.slice Ao53 t427.length co53) : Value).ownBlock ∧ some k_ ≠ (u460001 : Value).ownBlock) (.slice Ao20 t395.length co20) t395) ∧ Aside0 (Kd.R (Kd.int .i64) 2 w' w.heap.size (fun k_ => some k_ ≠ ((.slice Ao20 t395.length co20) : Value).ownBlock ∧ some k_ ≠ ((.slice Ao37 t415.length co37) : Value).ownBlock ∧ some k_ ≠ ((.slice Ao44 t421.length co44) : Value).ownBlock ∧ some k_ ≠ ((.slice Ao53 t427.length co53) : Value).ownBlock ∧ some k_ ≠ (u460001 : Value).ownBlock) (.slice Ao28 t405.length co28) t405) ∧ Aside0 (Kd.R (Kd.int .i64) 2 w' w.heap.size (fun k_ => some k_ ≠ ((.slice Ao20 t395.length co20) : Value).ownBlock ∧ some k_ ≠ ((.slice Ao28 t405.length co28) : Value).ownBlock ∧ some k_ ≠ ((.slice Ao44 t421.length co44) : Value).ownBlock ∧ some k_ ≠ ((.slice Ao53 t427.length co53) : Value).ownBlock ∧ some k_ ≠ (u460001 : Value).ownBlock) (.slice Ao37 t415.length co37) t415) ∧ Aside0 (Kd.R (Kd.int .i64) 2 w' w.heap.size (fun k_ => some k_ ≠ ((.slice Ao20 t395.length co20) : Value).ownBlock ∧ some k_ ≠ ((.slice Ao28 t405.length co28) : Value).ownBlock ∧ some k_ ≠ ((.slice Ao37 t415.length co37) : Value).ownBlock ∧ some k_ ≠ ((.slice Ao53 t427.length co53) : Value).ownBlock ∧ some k_ ≠ (u460001 : Value).ownBlock) (.slice Ao44 t421.length co44) t421) ∧ Aside0 (Kd.R (Kd.int .i64) 2 w' w.heap.size (fun k_ => some k_ ≠ ((.slice Ao20 t395.length co20) : Value).ownBlock ∧ some k_ ≠ ((.slice Ao28 t405.length co28) : Value).ownBlock ∧ some k_ ≠ ((.slice Ao37 t415.length co37) : Value).ownBlock ∧ some k_ ≠ ((.slice Ao44 t421.length co44) : Value).ownBlock ∧ some k_ ≠ (u460001 : Value).ownBlock) (.slice Ao53 t427.length co53) t427) ∧ Aside0 (Kd.R (Kd.int .i64) 2 w' w.heap.size (fun k_ => some k_ ≠ ((.slice Ao20 t395.length co20) : Value).ownBlock ∧ some k_ ≠ ((.slice Ao28 t405.length co28) : Value).ownBlock ∧ some k_ ≠ ((.slice Ao37 t415.length co37) : Value).ownBlock ∧ some k_ ≠ ((.slice Ao44 t421.length co44) : Value).ownBlock ∧ some k_ ≠ ((.slice Ao53 t427.length co53) : Value).ownBlock) u460001 x460001_3) ∧ Aside0 (w'.heap[gb399]? = some (.cells #[.int .i64 t394, (.slice Ao20 t395.length co20)] 118 (0, 0))) ∧ Aside0 (w'.heap[gb409]? = some (.cells #[.int .i64 t404, (.slice Ao28 t405.length co28)] 118 (0, 0))) ∧ Aside0 (w'.heap[gb419]? = some (.cells #[.int .i64 t414, (.slice Ao37 t415.length co37)] 118 (0, 0))) ∧ Aside0 (w'.heap[gb425]? = some (.cells #[.int .i64 t420, (.slice Ao44 t421.length co44)] 118 (0, 0))) ∧ Aside0 (w'.heap[gb431]? = some (.cells #[.int .i64 t426, (.slice Ao53 t427.length co53)] 118 (0, 0))) ∧ Aside0 (w'.heap[gb459]? = some (.cells #[.int .i64 t432, u460001] 118 (0, 0))) ∧ Aside0 (Below w.heap.size w w'))
             case atStart => exact ⟨(0), (y456), (.slice Ao184 y456.length co184), (by first | rfl | (simp; done) | (simp [*]; done)), H', ⟨Nat.le_refl _⟩, ⟨by (with_reducible repeat (first | apply Kd.R_alloc | apply Kd.R_drewN | apply Kd.R_drew)); exact Kd.R_mono (Kd.R_far (p := ⟨gb459, 1, none⟩) (Kd.R_far (p := ⟨gb459, 0, none⟩) (Kd.R_types HO_400001.out BK459.out (by decide)) (fun _ hk => hk.2) (.int .i64 t432)) (fun _ hk => hk.2) (.slice Ao184 y456.length co184)) (fun _ hk => ⟨hk.1.1.1, ⟨hk.1.1.2.1, ⟨hk.1.1.2.2.1, ⟨hk.1.1.2.2.2, hk.1.2⟩⟩⟩⟩)⟩, ⟨by (with_reducible repeat (first | apply Kd.R_alloc | apply Kd.R_drewN | apply Kd.R_drew)); exact Kd.R_mono (Kd.R_far (p := ⟨gb459, 1, none⟩) (Kd.R_far (p := ⟨gb459, 0, none⟩) (Kd.R_types HO_410001.out BK459.out (by decide)) (fun _ hk => hk.2) (.int .i64 t432)) (fun _ hk => hk.2) (.slice Ao184 y456.length co184)) (fun _ hk => ⟨hk.1.1.1, ⟨hk.1.1.2.1, ⟨hk.1.1.2.2.1, ⟨hk.1.1.2.2.2, hk.1.2⟩⟩⟩⟩)⟩, ⟨by (with_reducible repeat (first | apply Kd.R_alloc | apply Kd.R_drewN | apply Kd.R_drew)); exact Kd.R_mono (Kd.R_far (p := ⟨gb459, 1, none⟩) (Kd.R_far (p := ⟨gb459, 0, none⟩) (Kd.R_types HO_420001.out BK459.out (by decide)) (fun _ hk => hk.2) (.int .i64 t432)) (fun _ hk => hk.2) (.slice Ao184 y456.length co184)) (fun _ hk => ⟨hk.1.1.1, ⟨hk.1.1.2.1, ⟨hk.1.1.2.2.1, ⟨hk.1.1.2.2.2, hk.1.2⟩⟩⟩⟩)⟩, ⟨by (with_reducible repeat (first | apply Kd.R_alloc | apply Kd.R_drewN | apply Kd.R_drew)); exact Kd.R_mono (Kd.R_far (p := ⟨gb459, 1, none⟩) (Kd.R_far (p := ⟨gb459, 0, none⟩) (Kd.R_types HO_426001.out BK459.out (by decide)) (fun _ hk => hk.2) (.int .i64 t432)) (fun _ hk => hk.2) (.slice Ao184 y456.length co184)) (fun _ hk => ⟨hk.1.1.1, ⟨hk.1.1.2.1, ⟨hk.1.1.2.2.1, ⟨hk.1.1.2.2.2, hk.1.2⟩⟩⟩⟩)⟩, ⟨by (with_reducible repeat (first | apply Kd.R_alloc | apply Kd.R_drewN | apply Kd.R_drew)); exact Kd.R_mono (Kd.R_far (p := ⟨gb459, 1, none⟩) (Kd.R_far (p := ⟨gb459, 0, none⟩) (Kd.R_types HO_432001.out BK459.out (by decide)) (fun _ hk => hk.2) (.int .i64 t432)) (fun _ hk => hk.2) (.slice Ao184 y456.length co184)) (fun _ hk => ⟨hk.1.1.1, ⟨hk.1.1.2.1, ⟨hk.1.1.2.2.1, ⟨hk.1.1.2.2.2, hk.1.2⟩⟩⟩⟩)⟩, ⟨by (with_reducible repeat (first | apply Kd.R_alloc | apply Kd.R_drewN | apply Kd.R_drew)); exact Kd.R_mono (Kd.R_far (p := ⟨gb459, 1, none⟩) (Kd.R_far (p := ⟨gb459, 0, none⟩) (Kd.R_types HO458.out BK459.out (by decide)) (fun _ hk => hk.2) (.int .i64 t432)) (fun _ hk => hk.2) (.slice Ao184 y456.length co184)) (fun _ hk => ⟨hk.1.1.1.1.1.2, ⟨hk.1.1.1.1.2, ⟨hk.1.1.1.2, ⟨hk.1.1.2, hk.1.2⟩⟩⟩⟩)⟩, ⟨by (with_reducible repeat (first | refine blk_drewN ?_ _ | refine blk_drew ?_ | refine blk_alloc ?_ _)); refine blk_far ?_ NB399_459.out _; (with_reducible repeat (first | refine blk_drewN ?_ _ | refine blk_drew ?_ | refine blk_alloc ?_ _)); refine blk_far ?_ NB399_459.out _; (with_reducible repeat (first | refine blk_drewN ?_ _ | refine blk_drew ?_ | refine blk_alloc ?_ _)); exact BK399.out⟩, ⟨by (with_reducible repeat (first | refine blk_drewN ?_ _ | refine blk_drew ?_ | refine blk_alloc ?_ _)); refine blk_far ?_ NB409_459.out _; (with_reducible repeat (first | refine blk_drewN ?_ _ | refine blk_drew ?_ | refine blk_alloc ?_ _)); refine blk_far ?_ NB409_459.out _; (with_reducible repeat (first | refine blk_drewN ?_ _ | refine blk_drew ?_ | refine blk_alloc ?_ _)); exact BK409.out⟩, ⟨by (with_reducible repeat (first | refine blk_drewN ?_ _ | refine blk_drew ?_ | refine blk_alloc ?_ _)); refine blk_far ?_ NB419_459.out _; (with_reducible repeat (first | refine blk_drewN ?_ _ | refine blk_drew ?_ | refine blk_alloc ?_ _)); refine blk_far ?_ NB419_459.out _; (with_reducible repeat (first | refine blk_drewN ?_ _ | refine blk_drew ?_ | refine blk_alloc ?_ _)); exact BK419.out⟩, ⟨by (with_reducible repeat (first | refine blk_drewN ?_ _ | refine blk_drew ?_ | refine blk_alloc ?_ _)); refine blk_far ?_ NB425_459.out _; (with_reducible repeat (first | refine blk_drewN ?_ _ | refine blk_drew ?_ | refine blk_alloc ?_ _)); refine blk_far ?_ NB425_459.out _; (with_reducible repeat (first | refine blk_drewN ?_ _ | refine blk_drew ?_ | refine blk_alloc ?_ _)); exact BK425.out⟩, ⟨by (with_reducible repeat (first | refine blk_drewN ?_ _ | refine blk_drew ?_ | refine blk_alloc ?_ _)); refine blk_far ?_ NB431_459.out _; (with_reducible repeat (first | refine blk_drewN ?_ _ | refine blk_drew ?_ | refine blk_alloc ?_ _)); refine blk_far ?_ NB431_459.out _; (with_reducible repeat (first | refine blk_drewN ?_ _ | refine blk_drew ?_ | refine blk_alloc ?_ _)); exact BK431.out⟩, ⟨by (with_reducible repeat (first | refine blk_drewN ?_ _ | refine blk_drew ?_ | refine blk_alloc ?_ _)); refine blk_put (cs := #[.int .i64 t432, .slice none 0 0]) ?_ 1 _ rfl; (with_reducible repeat (first | refine blk_drewN ?_ _ | refine blk_drew ?_ | refine blk_alloc ?_ _)); refine blk_put (cs := #[.int .i64 0, .slice none 0 0]) ?_ 0 _ rfl; (with_reducible repeat (first | refine blk_drewN ?_ _ | refine blk_drew ?_ | refine blk_alloc ?_ _)); exact BK459.out⟩, ⟨by repeat (first | (with_reducible first | exact HB.out | apply below_alloc | apply pw_below_drewN | apply below_drew1 | refine below_set ?_ GE399.out | refine below_set ?_ GE409.out | refine below_set ?_ GE419.out | refine below_set ?_ GE425.out | refine below_set ?_ GE431.out | refine below_set ?_ GE459.out) | exact HB.out)⟩⟩
             case round =>
              clear H'
              try clear c1
              try clear c2
              try clear p2
              try clear c3
              try clear c4
              try clear c5
              try clear c6
              try clear p6
              try clear c7
              try clear c8
              try clear c9
              try clear c10
              try clear c11
              try clear c12
              try clear c13
              try clear c14
              try clear c15
              try clear c16
              try clear c17
              try clear c18
              try clear c19
              try clear c26
              try clear c29
              try clear c34
              try clear c35
              try clear c40
              try clear c41
              try clear c42
              try clear c48
              try clear c49
              try clear c50
              try clear c51
              try clear c55
              try clear c55b0
              try clear c55b1
              try clear c56
              try clear c56b0
              try clear c56b1
              try clear c57
              try clear c57b0
              try clear c57b1
              try clear c58
              try clear c58b0
              try clear c58b1
              try clear c59
              try clear c59b0
              try clear c59b1
              try clear c61
              try clear c62
              try clear c62b0
              try clear c62b1
              try clear c63
              try clear c64
              try clear p64
              try clear c65
              try clear c66
              try clear c68
              try clear c69
              try clear c70
              try clear c73
              try clear c74
              try clear c75
              try clear c76
              try clear c78
              try clear c79
              try clear c80
              try clear c83
              try clear c84
              try clear c85
              try clear c86
              try clear c88
              try clear c89
              try clear c90
              try clear c91
              try clear c92
              try clear c93
              try clear c94
              try clear c95
              try clear c95b0
              try clear c95b1
              try clear c96
              try clear c97
              try clear c98
              try clear c99
              try clear c100
              try clear c101
              try clear c102
              try clear c103
              try clear c105
              try clear c106
              try clear c107
              try clear c110
              try clear c110b0
              try clear c110b1
              try clear c111
              try clear c111b0
              try clear c111b1
              try clear c112
              try clear c117
              try clear c117b0
              try clear c117b1
              try clear c118
              try clear c118b0
              try clear c118b1
              try clear c119
              try clear c119b0
              try clear c122
              try clear c123
              try clear c124
              try clear c125
              try clear c126
              try clear c129
              try clear c130
              try clear c131
              try clear c132
              try clear c137
              try clear c138
              try clear c139
              try clear c140
              try clear c141
              try clear c144
              try clear c145
              try clear c146
              try clear c147
              try clear c152
              try clear c153
              try clear c154
              try clear c155
              try clear c156
              try clear c159
              try clear c160
              try clear c161
              try clear c162
              try clear c167
              try clear c168
              try clear c169
              try clear c170
              try clear c171
              try clear c174
              try clear c175
              try clear c176
              try clear c177
              try clear c181
              try clear c181b0
              try clear c181b1
              try clear c186
              try clear c187
              try clear c188
              try clear c189
              try clear c190
              try clear hcz103_0
              try clear hcz103_1
              try clear hcz108_0
              try clear hcz108_1
              try clear hcz127_0
              try clear hcz127_1
              try clear hcz133_0
              try clear hcz133_1
              try clear hcz142_0
              try clear hcz142_1
              try clear hcz148_0
              try clear hcz148_1
              try clear hcz157_0
              try clear hcz157_1
              try clear hcz163_0
              try clear hcz163_1
              try clear hcz172_0
              try clear hcz172_1
              try clear hcz178_0
              try clear hcz178_1
              try clear hcz191_0
              try clear hcz191_1
              try clear hcz19_0
              try clear hcz19_1
              try clear hcz22_0
              try clear hcz22_1
              try clear hcz27_0
              try clear hcz27_1
              try clear hcz30_0
              try clear hcz30_1
              try clear hcz36_0
              try clear hcz36_1
              try clear hcz43_0
              try clear hcz43_1
              try clear hcz45_0
              try clear hcz45_1
              try clear hcz52_0
              try clear hcz52_1
              try clear hcz67_0
              try clear hcz67_1
              try clear hcz71_0
              try clear hcz71_1
              try clear hcz77_0
              try clear hcz77_1
              try clear hcz81_0
              try clear hcz81_1
              try clear hcz87_0
              try clear hcz87_1
              try clear hcz91_0
              try clear hcz91_1
              try clear hfz103_0
              try clear hfz103_1
              try clear hfz108_0
              try clear hfz108_1
              try clear hfz127_0
              try clear hfz127_1
              try clear hfz133_0
              try clear hfz133_1
              try clear hfz142_0
              try clear hfz142_1
              try clear hfz148_0
              try clear hfz148_1
              try clear hfz157_0
              try clear hfz157_1
              try clear hfz163_0
              try clear hfz163_1
              try clear hfz172_0
              try clear hfz172_1
              try clear hfz178_0
              try clear hfz178_1
              try clear hfz191_0
              try clear hfz191_1
              try clear hfz19_0
              try clear hfz19_1
              try clear hfz22_0
              try clear hfz22_1
              try clear hfz27_0
              try clear hfz27_1
              try clear hfz30_0
              try clear hfz30_1
              try clear hfz36_0
              try clear hfz36_1
              try clear hfz43_0
              try clear hfz43_1
              try clear hfz45_0
              try clear hfz45_1
              try clear hfz52_0
              try clear hfz52_1
              try clear hfz67_0
              try clear hfz67_1
              try clear hfz71_0
              try clear hfz71_1
              try clear hfz77_0
              try clear hfz77_1
              try clear hfz81_0
              try clear hfz81_1
              try clear hfz87_0
              try clear hfz87_1
              try clear hfz91_0
              try clear hfz91_1
              try clear p2
              try clear p6
              try clear p64
              obtain ⟨x39_3, x460001_3, u460001, rfl, HA, HK3, HO_400001, HO_410001, HO_420001, HO_426001, HO_432001, HO_460001, BK399, BK409, BK419, BK425, BK431, BK459, HB⟩ := hrel
              cases gk with
              | zero => exact absurd HA.out (by simp [laws_FnCurrents.l0])
              | succ k3 =>
               have H := HA.out
               clear HA
               simp only [laws_FnCurrents.l0] at H
               by_cases c192 : x39_3 < t438
               ·rw [if_pos c192] at H
                have c192b0 : decide (x39_3 < t438) = true := decide_eq_true c192
                clear c192
                by_cases c193 : x460001_3.length < 17592186044416
                case neg =>
                 rw [if_neg c193] at H
                 exact absurd H (by simp)
                rw [if_pos c193] at H
                have LMc193 := Aside0.mk c193
                clear c193
                obtain ⟨y460, hy460⟩ : ∃ y_ : List Int, y_ = (x460001_3 ++ [t433]) := ⟨_, rfl⟩
                replace H : (laws_FnCurrents.l0 k3 t398 t400 t401 t433 t434 t435 t438 (wrap64 (x39_3 + 1)) t394 t395 t432 y460) = some r := by first | (rw [hy460]; with_reducible exact H) | (have H2_ := (Option.bind_some _ _).symm.trans H; rw [hy460]; with_reducible exact H2_) | (have H2_ := (Option.bind_some _ _).symm.trans H; with_reducible exact H2_) | with_reducible exact H | (rw [hy460]; exact H) | exact H
                have Ny460 := Aside0.mk hy460
                clear hy460
                have H' := Aside0.mk H
                clear H
                have hnb194 := NB459_399.out
                have hnc194 := NB399_459.out
                have hnb195 := NB459_409.out
                have hnc195 := NB409_459.out
                have hnb196 := NB459_419.out
                have hnc196 := NB419_459.out
                have hnb197 := NB459_425.out
                have hnc197 := NB425_459.out
                have hnb198 := NB459_431.out
                have hnc198 := NB431_459.out
                have hcz199_0 : wr.cell? ⟨gb459, 0, none⟩ = some (.int .i64 t432) := (blk_cell BK459.out 0).trans rfl
                have hcz199_1 : wr.cell? ⟨gb459, 1, none⟩ = some (u460001) := (blk_cell BK459.out 1).trans rfl
                have hfz199_0 := blk_frozen BK459.out 0
                have hfz199_1 := blk_frozen BK459.out 1
                go_wp2_with (first | ((with_reducible refine gate_builtin (b := .append) (xs := #[.tmp 223, .tmp 225]) rfl ?_); at_builtin; refine Kd.R_append (Kd.int .i64) (w0 := w) w.heap.size rfl (.tmp 223) (.tmp 225) 24 2 (.int .i64 0) 8 rfl Try.underlying24 info2 rfl (by decide) (by omega) u460001 x460001_3 t433 [.int .i64 t433] (fun k_ => some k_ ≠ (.slice Ao20 t395.length co20 : Value).ownBlock ∧ some k_ ≠ (.slice Ao28 t405.length co28 : Value).ownBlock ∧ some k_ ≠ (.slice Ao37 t415.length co37 : Value).ownBlock ∧ some k_ ≠ (.slice Ao44 t421.length co44 : Value).ownBlock ∧ some k_ ≠ (.slice Ao53 t427.length co53 : Value).ownBlock) (fun _ => False) rfl rfl ?aP (fun _ hk => hk.elim) ?aF ?aO ?aB ?aS ?aL ?_; (case aP => exact rfl); (case aB => exact (by repeat (first | (with_reducible first | exact HB.out | apply below_alloc | apply pw_below_drewN | apply below_drew1 | refine below_set ?_ GE399.out | refine below_set ?_ GE409.out | refine below_set ?_ GE419.out | refine below_set ?_ GE425.out | refine below_set ?_ GE431.out | refine below_set ?_ GE459.out) | exact HB.out))); (case aF => exact (fun k_ hk => ⟨Kd.fresh' (Kd.R_lt (by (with_reducible repeat (first | apply Kd.R_alloc | apply Kd.R_drewN | apply Kd.R_drew)); exact HO_400001.out)) k_ hk, Kd.fresh' (Kd.R_lt (by (with_reducible repeat (first | apply Kd.R_alloc | apply Kd.R_drewN | apply Kd.R_drew)); exact HO_410001.out)) k_ hk, Kd.fresh' (Kd.R_lt (by (with_reducible repeat (first | apply Kd.R_alloc | apply Kd.R_drewN | apply Kd.R_drew)); exact HO_420001.out)) k_ hk, Kd.fresh' (Kd.R_lt (by (with_reducible repeat (first | apply Kd.R_alloc | apply Kd.R_drewN | apply Kd.R_drew)); exact HO_426001.out)) k_ hk, Kd.fresh' (Kd.R_lt (by (with_reducible repeat (first | apply Kd.R_alloc | apply Kd.R_drewN | apply Kd.R_drew)); exact HO_432001.out)) k_ hk⟩)); (case aO => exact (by (with_reducible repeat (first | apply Kd.R_alloc | apply Kd.R_drewN | apply Kd.R_drew)); exact HO_460001.out)); (case aS => exact (below_size (by repeat (first | (with_reducible first | exact HB.out | apply below_alloc | apply pw_below_drewN | apply below_drew1 | refine below_set ?_ GE399.out | refine below_set ?_ GE409.out | refine below_set ?_ GE419.out | refine below_set ?_ GE425.out | refine below_set ?_ GE431.out | refine below_set ?_ GE459.out) | exact HB.out)))); (case aL => have := LMc193.out; omega); intro v461 w200 ho hb hg hat; rw [← Ny460.out] at ho; have n0_ := Aside0.mk (Kd.R_after (ok := (fun k_ => some k_ ≠ (.slice Ao28 t405.length co28 : Value).ownBlock ∧ some k_ ≠ (.slice Ao37 t415.length co37 : Value).ownBlock ∧ some k_ ≠ (.slice Ao44 t421.length co44 : Value).ownBlock ∧ some k_ ≠ (.slice Ao53 t427.length co53 : Value).ownBlock)) (by (with_reducible repeat (first | apply Kd.R_alloc | apply Kd.R_drewN | apply Kd.R_drew)); exact Kd.R_mono HO_400001.out (fun _ hk => ⟨⟨hk.1, ⟨hk.2.1, ⟨hk.2.2.1, hk.2.2.2.1⟩⟩⟩, hk.2.2.2.2⟩)) hg hat); have n1_ := Aside0.mk (Kd.R_after (ok := (fun k_ => some k_ ≠ (.slice Ao20 t395.length co20 : Value).ownBlock ∧ some k_ ≠ (.slice Ao37 t415.length co37 : Value).ownBlock ∧ some k_ ≠ (.slice Ao44 t421.length co44 : Value).ownBlock ∧ some k_ ≠ (.slice Ao53 t427.length co53 : Value).ownBlock)) (by (with_reducible repeat (first | apply Kd.R_alloc | apply Kd.R_drewN | apply Kd.R_drew)); exact Kd.R_mono HO_410001.out (fun _ hk => ⟨⟨hk.1, ⟨hk.2.1, ⟨hk.2.2.1, hk.2.2.2.1⟩⟩⟩, hk.2.2.2.2⟩)) hg hat); have n2_ := Aside0.mk (Kd.R_after (ok := (fun k_ => some k_ ≠ (.slice Ao20 t395.length co20 : Value).ownBlock ∧ some k_ ≠ (.slice Ao28 t405.length co28 : Value).ownBlock ∧ some k_ ≠ (.slice Ao44 t421.length co44 : Value).ownBlock ∧ some k_ ≠ (.slice Ao53 t427.length co53 : Value).ownBlock)) (by (with_reducible repeat (first | apply Kd.R_alloc | apply Kd.R_drewN | apply Kd.R_drew)); exact Kd.R_mono HO_420001.out (fun _ hk => ⟨⟨hk.1, ⟨hk.2.1, ⟨hk.2.2.1, hk.2.2.2.1⟩⟩⟩, hk.2.2.2.2⟩)) hg hat); have n3_ := Aside0.mk (Kd.R_after (ok := (fun k_ => some k_ ≠ (.slice Ao20 t395.length co20 : Value).ownBlock ∧ some k_ ≠ (.slice Ao28 t405.length co28 : Value).ownBlock ∧ some k_ ≠ (.slice Ao37 t415.length co37 : Value).ownBlock ∧ some k_ ≠ (.slice Ao53 t427.length co53 : Value).ownBlock)) (by (with_reducible repeat (first | apply Kd.R_alloc | apply Kd.R_drewN | apply Kd.R_drew)); exact Kd.R_mono HO_426001.out (fun _ hk => ⟨⟨hk.1, ⟨hk.2.1, ⟨hk.2.2.1, hk.2.2.2.1⟩⟩⟩, hk.2.2.2.2⟩)) hg hat); have n4_ := Aside0.mk (Kd.R_after (ok := (fun k_ => some k_ ≠ (.slice Ao20 t395.length co20 : Value).ownBlock ∧ some k_ ≠ (.slice Ao28 t405.length co28 : Value).ownBlock ∧ some k_ ≠ (.slice Ao37 t415.length co37 : Value).ownBlock ∧ some k_ ≠ (.slice Ao44 t421.length co44 : Value).ownBlock)) (by (with_reducible repeat (first | apply Kd.R_alloc | apply Kd.R_drewN | apply Kd.R_drew)); exact Kd.R_mono HO_432001.out (fun _ hk => ⟨⟨hk.1, ⟨hk.2.1, ⟨hk.2.2.1, hk.2.2.2.1⟩⟩⟩, hk.2.2.2.2⟩)) hg hat); have n5_ := Aside0.mk (blk_grown (g := gb399) (o := .cells #[.int .i64 t394, .slice Ao20 t395.length co20] 118 (0, 0)) (by (with_reducible repeat (first | refine blk_drewN ?_ _ | refine blk_drew ?_ | refine blk_alloc ?_ _)); exact BK399.out) hg (Kd.R_ne HO_460001.out BK399.out (by decide))); have n6_ := Aside0.mk (blk_grown (g := gb409) (o := .cells #[.int .i64 t404, .slice Ao28 t405.length co28] 118 (0, 0)) (by (with_reducible repeat (first | refine blk_drewN ?_ _ | refine blk_drew ?_ | refine blk_alloc ?_ _)); exact BK409.out) hg (Kd.R_ne HO_460001.out BK409.out (by decide))); have n7_ := Aside0.mk (blk_grown (g := gb419) (o := .cells #[.int .i64 t414, .slice Ao37 t415.length co37] 118 (0, 0)) (by (with_reducible repeat (first | refine blk_drewN ?_ _ | refine blk_drew ?_ | refine blk_alloc ?_ _)); exact BK419.out) hg (Kd.R_ne HO_460001.out BK419.out (by decide))); have n8_ := Aside0.mk (blk_grown (g := gb425) (o := .cells #[.int .i64 t420, .slice Ao44 t421.length co44] 118 (0, 0)) (by (with_reducible repeat (first | refine blk_drewN ?_ _ | refine blk_drew ?_ | refine blk_alloc ?_ _)); exact BK425.out) hg (Kd.R_ne HO_460001.out BK425.out (by decide))); have n9_ := Aside0.mk (blk_grown (g := gb431) (o := .cells #[.int .i64 t426, .slice Ao53 t427.length co53] 118 (0, 0)) (by (with_reducible repeat (first | refine blk_drewN ?_ _ | refine blk_drew ?_ | refine blk_alloc ?_ _)); exact BK431.out) hg (Kd.R_ne HO_460001.out BK431.out (by decide))); have n10_ := Aside0.mk (blk_grown (g := gb459) (o := .cells #[.int .i64 t432, u460001] 118 (0, 0)) (by (with_reducible repeat (first | refine blk_drewN ?_ _ | refine blk_drew ?_ | refine blk_alloc ?_ _)); exact BK459.out) hg (Kd.R_ne HO_460001.out BK459.out (by decide))); have n11_ := Aside0.mk (hb); have n12_ := Aside0.mk (ho); clear HO_400001; clear HO_410001; clear HO_420001; clear HO_426001; clear HO_432001; clear BK399; clear BK409; clear BK419; clear BK425; clear BK431; clear BK459; clear HB; clear HO_460001; have HO_400001 := n0_; have HO_410001 := n1_; have HO_420001 := n2_; have HO_426001 := n3_; have HO_432001 := n4_; have BK399 := n5_; have BK409 := n6_; have BK419 := n7_; have BK425 := n8_; have BK431 := n9_; have BK459 := n10_; have HB := n11_; have HO462 := n12_; clear n0_ n1_ n2_ n3_ n4_ n5_ n6_ n7_ n8_ n9_ n10_ n11_ n12_; clear ho hb hg hat; obtain ⟨Ao201, co201, eo201⟩ := Kd.R_slice HO462.out; subst eo201; have hcz202_0 : w200.cell? ⟨gb459, 0, none⟩ = some (.int .i64 t432) := (blk_cell BK459.out 0).trans rfl; have hcz202_1 : w200.cell? ⟨gb459, 1, none⟩ = some (u460001) := (blk_cell BK459.out 1).trans rfl; have hfz202_0 := blk_frozen BK459.out 0; have hfz202_1 := blk_frozen BK459.out 1))
                go_roundg k3
                case measure => have := HJ15.out; have := HJ93.out; have := HK3.out; omega
                case rel => exact ⟨(wrap64 (x39_3 + 1)), (y460), (.slice Ao201 y460.length co201), (by first | rfl | (simp; done) | (simp [*]; done)), H', ⟨by have := HJ15.out; have := HJ93.out; have := HK3.out; omega⟩, ⟨by (with_reducible repeat (first | apply Kd.R_alloc | apply Kd.R_drewN | apply Kd.R_drew)); exact Kd.R_mono (Kd.R_far (p := ⟨gb459, 1, none⟩) (Kd.R_types HO_400001.out BK459.out (by decide)) (fun _ hk => hk.2) (.slice Ao201 y460.length co201)) (fun _ hk => ⟨hk.1.1.1, ⟨hk.1.1.2.1, ⟨hk.1.1.2.2.1, ⟨hk.1.1.2.2.2, hk.1.2⟩⟩⟩⟩)⟩, ⟨by (with_reducible repeat (first | apply Kd.R_alloc | apply Kd.R_drewN | apply Kd.R_drew)); exact Kd.R_mono (Kd.R_far (p := ⟨gb459, 1, none⟩) (Kd.R_types HO_410001.out BK459.out (by decide)) (fun _ hk => hk.2) (.slice Ao201 y460.length co201)) (fun _ hk => ⟨hk.1.1.1, ⟨hk.1.1.2.1, ⟨hk.1.1.2.2.1, ⟨hk.1.1.2.2.2, hk.1.2⟩⟩⟩⟩)⟩, ⟨by (with_reducible repeat (first | apply Kd.R_alloc | apply Kd.R_drewN | apply Kd.R_drew)); exact Kd.R_mono (Kd.R_far (p := ⟨gb459, 1, none⟩) (Kd.R_types HO_420001.out BK459.out (by decide)) (fun _ hk => hk.2) (.slice Ao201 y460.length co201)) (fun _ hk => ⟨hk.1.1.1, ⟨hk.1.1.2.1, ⟨hk.1.1.2.2.1, ⟨hk.1.1.2.2.2, hk.1.2⟩⟩⟩⟩)⟩, ⟨by (with_reducible repeat (first | apply Kd.R_alloc | apply Kd.R_drewN | apply Kd.R_drew)); exact Kd.R_mono (Kd.R_far (p := ⟨gb459, 1, none⟩) (Kd.R_types HO_426001.out BK459.out (by decide)) (fun _ hk => hk.2) (.slice Ao201 y460.length co201)) (fun _ hk => ⟨hk.1.1.1, ⟨hk.1.1.2.1, ⟨hk.1.1.2.2.1, ⟨hk.1.1.2.2.2, hk.1.2⟩⟩⟩⟩)⟩, ⟨by (with_reducible repeat (first | apply Kd.R_alloc | apply Kd.R_drewN | apply Kd.R_drew)); exact Kd.R_mono (Kd.R_far (p := ⟨gb459, 1, none⟩) (Kd.R_types HO_432001.out BK459.out (by decide)) (fun _ hk => hk.2) (.slice Ao201 y460.length co201)) (fun _ hk => ⟨hk.1.1.1, ⟨hk.1.1.2.1, ⟨hk.1.1.2.2.1, ⟨hk.1.1.2.2.2, hk.1.2⟩⟩⟩⟩)⟩, ⟨by (with_reducible repeat (first | apply Kd.R_alloc | apply Kd.R_drewN | apply Kd.R_drew)); exact Kd.R_mono (Kd.R_far (p := ⟨gb459, 1, none⟩) (Kd.R_types HO462.out BK459.out (by decide)) (fun _ hk => hk.2) (.slice Ao201 y460.length co201)) (fun _ hk => ⟨hk.1.1, ⟨hk.1.2.1, ⟨hk.1.2.2.1, ⟨hk.1.2.2.2.1, hk.1.2.2.2.2⟩⟩⟩⟩)⟩, ⟨by (with_reducible repeat (first | refine blk_drewN ?_ _ | refine blk_drew ?_ | refine blk_alloc ?_ _)); refine blk_far ?_ NB399_459.out _; (with_reducible repeat (first | refine blk_drewN ?_ _ | refine blk_drew ?_ | refine blk_alloc ?_ _)); exact BK399.out⟩, ⟨by (with_reducible repeat (first | refine blk_drewN ?_ _ | refine blk_drew ?_ | refine blk_alloc ?_ _)); refine blk_far ?_ NB409_459.out _; (with_reducible repeat (first | refine blk_drewN ?_ _ | refine blk_drew ?_ | refine blk_alloc ?_ _)); exact BK409.out⟩, ⟨by (with_reducible repeat (first | refine blk_drewN ?_ _ | refine blk_drew ?_ | refine blk_alloc ?_ _)); refine blk_far ?_ NB419_459.out _; (with_reducible repeat (first | refine blk_drewN ?_ _ | refine blk_drew ?_ | refine blk_alloc ?_ _)); exact BK419.out⟩, ⟨by (with_reducible repeat (first | refine blk_drewN ?_ _ | refine blk_drew ?_ | refine blk_alloc ?_ _)); refine blk_far ?_ NB425_459.out _; (with_reducible repeat (first | refine blk_drewN ?_ _ | refine blk_drew ?_ | refine blk_alloc ?_ _)); exact BK425.out⟩, ⟨by (with_reducible repeat (first | refine blk_drewN ?_ _ | refine blk_drew ?_ | refine blk_alloc ?_ _)); refine blk_far ?_ NB431_459.out _; (with_reducible repeat (first | refine blk_drewN ?_ _ | refine blk_drew ?_ | refine blk_alloc ?_ _)); exact BK431.out⟩, ⟨by (with_reducible repeat (first | refine blk_drewN ?_ _ | refine blk_drew ?_ | refine blk_alloc ?_ _)); refine blk_put (cs := #[.int .i64 t432, u460001]) ?_ 1 _ rfl; (with_reducible repeat (first | refine blk_drewN ?_ _ | refine blk_drew ?_ | refine blk_alloc ?_ _)); exact BK459.out⟩, ⟨by repeat (first | (with_reducible first | exact HB.out | apply below_alloc | apply pw_below_drewN | apply below_drew1 | refine below_set ?_ GE399.out | refine below_set ?_ GE409.out | refine below_set ?_ GE419.out | refine below_set ?_ GE425.out | refine below_set ?_ GE431.out | refine below_set ?_ GE459.out) | exact HB.out)⟩⟩
               ·as_aux_lemma =>
                 rw [if_neg c192] at H
                 have c192b0 : decide (x39_3 < t438) = false := decide_eq_false c192
                 clear c192
                 replace H := Option.bind_eq_some_iff.mp H
                 obtain ⟨⟨t463, t464⟩, A2030, H⟩ := H
                 replace H : (if t464 = 0 then (if t463 < t435 then (some false) else (laws_FnCurrents.j4 k3 t398 t400 t401 t394 t395)) else (some false)) = some r := H
                 have A203 := Aside0.mk A2030
                 clear A2030
                 by_cases c204 : t464 = 0
                 case neg =>
                  rw [if_neg c204] at H
                  have c204b0 : (t464 == 0) = false := beq_eq_false_iff_ne.mpr c204
                  have c204b1 : (t464 != 0) = true := bne_iff_ne.mpr c204
                  exact absurd ((Option.some.inj H).trans hT) (by decide)
                 rw [if_pos c204] at H
                 have c204b0 : (t464 == 0) = true := beq_iff_eq.mpr c204
                 have c204b1 : (t464 != 0) = false := bne_eq_false_iff_eq.mpr c204
                 clear c204
                 by_cases c205 : t463 < t435
                 case pos =>
                  rw [if_pos c205] at H
                  have c205b0 : decide (t463 < t435) = true := decide_eq_true c205
                  clear c205
                  exact absurd ((Option.some.inj H).trans hT) (by decide)
                 rw [if_neg c205] at H
                 have c205b0 : decide (t463 < t435) = false := decide_eq_false c205
                 clear c205
                 have H' := Aside0.mk H
                 clear H
                 have hnb214 := NB459_399.out
                 have hnc214 := NB399_459.out
                 have hnb215 := NB459_409.out
                 have hnc215 := NB409_459.out
                 have hnb216 := NB459_419.out
                 have hnc216 := NB419_459.out
                 have hnb217 := NB459_425.out
                 have hnc217 := NB425_459.out
                 have hnb218 := NB459_431.out
                 have hnc218 := NB431_459.out
                 have hcz219_0 : wr.cell? ⟨gb459, 0, none⟩ = some (.int .i64 t432) := (blk_cell BK459.out 0).trans rfl
                 have hcz219_1 : wr.cell? ⟨gb459, 1, none⟩ = some (u460001) := (blk_cell BK459.out 1).trans rfl
                 have hfz219_0 := blk_frozen BK459.out 0
                 have hfz219_1 := blk_frozen BK459.out 1
                 obtain ⟨Ao220, co220, eo220⟩ := Kd.R_slice HO_460001.out
                 subst eo220
                 go_wp2_with (first | ((with_reducible refine gate_callee (f := 94) rfl ?_); refine goesL_ (some 231) rfl rfl Try.func94 (by kernel_rfl) rfl #[.agg #[.int .i64 t432, .slice Ao220 x460001_3.length co220], .int .i64 t434] rfl (by (try simp only [List.map_toArray, List.map_cons, List.map_nil]); first | done | rfl | (simp only [List.length_drop, List.length_take]; rfl)) ?_; (with_reducible refine (impl_CurrentOf.calls k3 t432 _ _ x460001_3 t434 t463 t464 _ ?side1 ?side2 A203.out).mono ?_); (case side1 => repeat (first | exact (Kd.R_reads' HO_460001.out).2.2 | (with_reducible refine Kd.C_alloc ?_ _) | (with_reducible refine Kd.C_drewN ?_ _) | (with_reducible refine Kd.C_drew ?_))); (case side2 => exact (Kd.R_reads' HO_460001.out).2.1); rintro e w221 ⟨rfl, hb⟩; refine ⟨_, rfl, ?_⟩; have n0_ := Aside0.mk (Kd.R_below (by (with_reducible repeat (first | apply Kd.R_alloc | apply Kd.R_drewN | apply Kd.R_drew)); exact HO_400001.out) hb); have n1_ := Aside0.mk (Kd.R_below (by (with_reducible repeat (first | apply Kd.R_alloc | apply Kd.R_drewN | apply Kd.R_drew)); exact HO_410001.out) hb); have n2_ := Aside0.mk (Kd.R_below (by (with_reducible repeat (first | apply Kd.R_alloc | apply Kd.R_drewN | apply Kd.R_drew)); exact HO_420001.out) hb); have n3_ := Aside0.mk (Kd.R_below (by (with_reducible repeat (first | apply Kd.R_alloc | apply Kd.R_drewN | apply Kd.R_drew)); exact HO_426001.out) hb); have n4_ := Aside0.mk (Kd.R_below (by (with_reducible repeat (first | apply Kd.R_alloc | apply Kd.R_drewN | apply Kd.R_drew)); exact HO_432001.out) hb); have n5_ := Aside0.mk (Kd.R_below (by (with_reducible repeat (first | apply Kd.R_alloc | apply Kd.R_drewN | apply Kd.R_drew)); exact HO_460001.out) hb); have n6_ := Aside0.mk (blk_below (g := gb399) (o := .cells #[.int .i64 t394, .slice Ao20 t395.length co20] 118 (0, 0)) (by (with_reducible repeat (first | refine blk_drewN ?_ _ | refine blk_drew ?_ | refine blk_alloc ?_ _)); exact BK399.out) hb); have n7_ := Aside0.mk (blk_below (g := gb409) (o := .cells #[.int .i64 t404, .slice Ao28 t405.length co28] 118 (0, 0)) (by (with_reducible repeat (first | refine blk_drewN ?_ _ | refine blk_drew ?_ | refine blk_alloc ?_ _)); exact BK409.out) hb); have n8_ := Aside0.mk (blk_below (g := gb419) (o := .cells #[.int .i64 t414, .slice Ao37 t415.length co37] 118 (0, 0)) (by (with_reducible repeat (first | refine blk_drewN ?_ _ | refine blk_drew ?_ | refine blk_alloc ?_ _)); exact BK419.out) hb); have n9_ := Aside0.mk (blk_below (g := gb425) (o := .cells #[.int .i64 t420, .slice Ao44 t421.length co44] 118 (0, 0)) (by (with_reducible repeat (first | refine blk_drewN ?_ _ | refine blk_drew ?_ | refine blk_alloc ?_ _)); exact BK425.out) hb); have n10_ := Aside0.mk (blk_below (g := gb431) (o := .cells #[.int .i64 t426, .slice Ao53 t427.length co53] 118 (0, 0)) (by (with_reducible repeat (first | refine blk_drewN ?_ _ | refine blk_drew ?_ | refine blk_alloc ?_ _)); exact BK431.out) hb); have n11_ := Aside0.mk (blk_below (g := gb459) (o := .cells #[.int .i64 t432, .slice Ao220 x460001_3.length co220] 118 (0, 0)) (by (with_reducible repeat (first | refine blk_drewN ?_ _ | refine blk_drew ?_ | refine blk_alloc ?_ _)); exact BK459.out) hb); have n12_ := Aside0.mk (below_step (by repeat (first | (with_reducible first | exact HB.out | apply below_alloc | apply pw_below_drewN | apply below_drew1 | refine below_set ?_ GE399.out | refine below_set ?_ GE409.out | refine below_set ?_ GE419.out | refine below_set ?_ GE425.out | refine below_set ?_ GE431.out | refine below_set ?_ GE459.out) | exact HB.out)) hb); clear HO_400001; clear HO_410001; clear HO_420001; clear HO_426001; clear HO_432001; clear HO_460001; clear BK399; clear BK409; clear BK419; clear BK425; clear BK431; clear BK459; clear HB; have HO_400001 := n0_; have HO_410001 := n1_; have HO_420001 := n2_; have HO_426001 := n3_; have HO_432001 := n4_; have HO_460001 := n5_; have BK399 := n6_; have BK409 := n7_; have BK419 := n8_; have BK425 := n9_; have BK431 := n10_; have BK459 := n11_; have HB := n12_; clear n0_ n1_ n2_ n3_ n4_ n5_ n6_ n7_ n8_ n9_ n10_ n11_ n12_; (try clear hb); (try clear hb2); (try clear hk); (try clear hi)))
                 go_meet
                 case rel => exact ⟨_, H', ⟨by have := HJ15.out; have := HJ93.out; have := HK3.out; first | omega | exact Nat.le_refl _⟩, ⟨by (with_reducible repeat (first | apply Kd.R_alloc | apply Kd.R_drewN | apply Kd.R_drew)); exact Kd.R_mono HO_400001.out (fun _ hk => ⟨hk.1, ⟨hk.2.1, ⟨hk.2.2.1, hk.2.2.2.1⟩⟩⟩)⟩, ⟨by (with_reducible repeat (first | apply Kd.R_alloc | apply Kd.R_drewN | apply Kd.R_drew)); exact Kd.R_mono HO_410001.out (fun _ hk => ⟨hk.1, ⟨hk.2.1, ⟨hk.2.2.1, hk.2.2.2.1⟩⟩⟩)⟩, ⟨by (with_reducible repeat (first | apply Kd.R_alloc | apply Kd.R_drewN | apply Kd.R_drew)); exact Kd.R_mono HO_420001.out (fun _ hk => ⟨hk.1, ⟨hk.2.1, ⟨hk.2.2.1, hk.2.2.2.1⟩⟩⟩)⟩, ⟨by (with_reducible repeat (first | apply Kd.R_alloc | apply Kd.R_drewN | apply Kd.R_drew)); exact Kd.R_mono HO_426001.out (fun _ hk => ⟨hk.1, ⟨hk.2.1, ⟨hk.2.2.1, hk.2.2.2.1⟩⟩⟩)⟩, ⟨by (with_reducible repeat (first | apply Kd.R_alloc | apply Kd.R_drewN | apply Kd.R_drew)); exact Kd.R_mono HO_432001.out (fun _ hk => ⟨hk.1, ⟨hk.2.1, ⟨hk.2.2.1, hk.2.2.2.1⟩⟩⟩)⟩, ⟨by (with_reducible repeat (first | refine blk_drewN ?_ _ | refine blk_drew ?_ | refine blk_alloc ?_ _)); exact BK399.out⟩, ⟨by (with_reducible repeat (first | refine blk_drewN ?_ _ | refine blk_drew ?_ | refine blk_alloc ?_ _)); exact BK409.out⟩, ⟨by (with_reducible repeat (first | refine blk_drewN ?_ _ | refine blk_drew ?_ | refine blk_alloc ?_ _)); exact BK419.out⟩, ⟨by (with_reducible repeat (first | refine blk_drewN ?_ _ | refine blk_drew ?_ | refine blk_alloc ?_ _)); exact BK425.out⟩, ⟨by (with_reducible repeat (first | refine blk_drewN ?_ _ | refine blk_drew ?_ | refine blk_alloc ?_ _)); exact BK431.out⟩, ⟨by repeat (first | (with_reducible first | exact HB.out | apply below_alloc | apply pw_below_drewN | apply below_drew1 | refine below_set ?_ GE399.out | refine below_set ?_ GE409.out | refine below_set ?_ GE419.out | refine below_set ?_ GE425.out | refine below_set ?_ GE431.out | refine below_set ?_ GE459.out) | exact HB.out)⟩⟩
            ·rw [if_neg c181] at H
             have c181b0 : (t437 == 0) = false := beq_eq_false_iff_ne.mpr c181
             have c181b1 : (t437 != 0) = true := bne_iff_ne.mpr c181
             (first | rw [c181b0] | (simp only [i64_w, i32_w]; rw [c181b0]) | skip)
             have H' := Aside0.mk H
             clear H
             go_wp2
             go_meet
             case rel => exact ⟨_, H', ⟨by have := HJ15.out; have := HJ93.out; first | omega | exact Nat.le_refl _⟩, ⟨by (with_reducible repeat (first | apply Kd.R_alloc | apply Kd.R_drewN | apply Kd.R_drew)); exact HO_400001.out⟩, ⟨by (with_reducible repeat (first | apply Kd.R_alloc | apply Kd.R_drewN | apply Kd.R_drew)); exact HO_410001.out⟩, ⟨by (with_reducible repeat (first | apply Kd.R_alloc | apply Kd.R_drewN | apply Kd.R_drew)); exact HO_420001.out⟩, ⟨by (with_reducible repeat (first | apply Kd.R_alloc | apply Kd.R_drewN | apply Kd.R_drew)); exact HO_426001.out⟩, ⟨by (with_reducible repeat (first | apply Kd.R_alloc | apply Kd.R_drewN | apply Kd.R_drew)); exact HO_432001.out⟩, ⟨by (with_reducible repeat (first | refine blk_drewN ?_ _ | refine blk_drew ?_ | refine blk_alloc ?_ _)); exact BK399.out⟩, ⟨by (with_reducible repeat (first | refine blk_drewN ?_ _ | refine blk_drew ?_ | refine blk_alloc ?_ _)); exact BK409.out⟩, ⟨by (with_reducible repeat (first | refine blk_drewN ?_ _ | refine blk_drew ?_ | refine blk_alloc ?_ _)); exact BK419.out⟩, ⟨by (with_reducible repeat (first | refine blk_drewN ?_ _ | refine blk_drew ?_ | refine blk_alloc ?_ _)); exact BK425.out⟩, ⟨by (with_reducible repeat (first | refine blk_drewN ?_ _ | refine blk_drew ?_ | refine blk_alloc ?_ _)); exact BK431.out⟩, ⟨by repeat (first | (with_reducible first | exact HB.out | apply below_alloc | apply pw_below_drewN | apply below_drew1 | refine below_set ?_ GE399.out | refine below_set ?_ GE409.out | refine below_set ?_ GE419.out | refine below_set ?_ GE425.out | refine below_set ?_ GE431.out) | exact HB.out)⟩⟩
          case rest =>
           as_aux_lemma =>
            clear HC180
            try clear c1
            try clear c2
            try clear p2
            try clear c3
            try clear c4
            try clear c5
            try clear c6
            try clear p6
            try clear c7
            try clear c8
            try clear c9
            try clear c10
            try clear c11
            try clear c12
            try clear c13
            try clear c14
            try clear c15
            try clear c16
            try clear c17
            try clear c18
            try clear c19
            try clear c20
            try clear c21
            try clear c22
            try clear c26
            try clear c29
            try clear c34
            try clear c35
            try clear c40
            try clear c41
            try clear c42
            try clear c48
            try clear c49
            try clear c50
            try clear c51
            try clear c55
            try clear c55b0
            try clear c55b1
            try clear c56
            try clear c56b0
            try clear c56b1
            try clear c57
            try clear c57b0
            try clear c57b1
            try clear c58
            try clear c58b0
            try clear c58b1
            try clear c59
            try clear c59b0
            try clear c59b1
            try clear c61
            try clear c62
            try clear c62b0
            try clear c62b1
            try clear c63
            try clear c64
            try clear p64
            try clear c65
            try clear c66
            try clear c68
            try clear c69
            try clear c70
            try clear c73
            try clear c74
            try clear c75
            try clear c76
            try clear c78
            try clear c79
            try clear c80
            try clear c83
            try clear c84
            try clear c85
            try clear c86
            try clear c88
            try clear c89
            try clear c90
            try clear c91
            try clear c92
            try clear c93
            try clear c94
            try clear c95
            try clear c95b0
            try clear c95b1
            try clear c96
            try clear c97
            try clear c98
            try clear c99
            try clear c100
            try clear c101
            try clear c102
            try clear c103
            try clear c105
            try clear c106
            try clear c107
            try clear c110
            try clear c110b0
            try clear c110b1
            try clear c111
            try clear c111b0
            try clear c111b1
            try clear c112
            try clear c117
            try clear c117b0
            try clear c117b1
            try clear c118
            try clear c118b0
            try clear c118b1
            try clear c119
            try clear c119b0
            try clear c122
            try clear c123
            try clear c124
            try clear c125
            try clear c126
            try clear c129
            try clear c130
            try clear c131
            try clear c132
            try clear c137
            try clear c138
            try clear c139
            try clear c140
            try clear c141
            try clear c144
            try clear c145
            try clear c146
            try clear c147
            try clear c152
            try clear c153
            try clear c154
            try clear c155
            try clear c156
            try clear c159
            try clear c160
            try clear c161
            try clear c162
            try clear c167
            try clear c168
            try clear c169
            try clear c170
            try clear c171
            try clear c174
            try clear c175
            try clear c176
            try clear c177
            try clear c181
            try clear c181b0
            try clear c181b1
            try clear c186
            try clear c187
            try clear c188
            try clear c189
            try clear c190
            try clear c192
            try clear c192b0
            try clear c193
            try clear c194
            try clear c195
            try clear c196
            try clear c197
            try clear c198
            try clear c204
            try clear c204b0
            try clear c204b1
            try clear c205
            try clear c205b0
            try clear c206
            try clear c207
            try clear c208
            try clear c209
            try clear c210
            try clear c214
            try clear c215
            try clear c216
            try clear c217
            try clear c218
            try clear c222
            try clear c223
            try clear c224
            try clear c225
            try clear c226
            try clear hcz103_0
            try clear hcz103_1
            try clear hcz108_0
            try clear hcz108_1
            try clear hcz127_0
            try clear hcz127_1
            try clear hcz133_0
            try clear hcz133_1
            try clear hcz142_0
            try clear hcz142_1
            try clear hcz148_0
            try clear hcz148_1
            try clear hcz157_0
            try clear hcz157_1
            try clear hcz163_0
            try clear hcz163_1
            try clear hcz172_0
            try clear hcz172_1
            try clear hcz178_0
            try clear hcz178_1
            try clear hcz191_0
            try clear hcz191_1
            try clear hcz199_0
            try clear hcz199_1
            try clear hcz19_0
            try clear hcz19_1
            try clear hcz202_0
            try clear hcz202_1
            try clear hcz211_0
            try clear hcz211_1
            try clear hcz219_0
            try clear hcz219_1
            try clear hcz227_0
            try clear hcz227_1
            try clear hcz22_0
            try clear hcz22_1
            try clear hcz27_0
            try clear hcz27_1
            try clear hcz30_0
            try clear hcz30_1
            try clear hcz36_0
            try clear hcz36_1
            try clear hcz43_0
            try clear hcz43_1
            try clear hcz45_0
            try clear hcz45_1
            try clear hcz52_0
            try clear hcz52_1
            try clear hcz67_0
            try clear hcz67_1
            try clear hcz71_0
            try clear hcz71_1
            try clear hcz77_0
            try clear hcz77_1
            try clear hcz81_0
            try clear hcz81_1
            try clear hcz87_0
            try clear hcz87_1
            try clear hcz91_0
            try clear hcz91_1
            try clear hfz103_0
            try clear hfz103_1
            try clear hfz108_0
            try clear hfz108_1
            try clear hfz127_0
            try clear hfz127_1
            try clear hfz133_0
            try clear hfz133_1
            try clear hfz142_0
            try clear hfz142_1
            try clear hfz148_0
            try clear hfz148_1
            try clear hfz157_0
            try clear hfz157_1
            try clear hfz163_0
            try clear hfz163_1
            try clear hfz172_0
            try clear hfz172_1
            try clear hfz178_0
            try clear hfz178_1
            try clear hfz191_0
            try clear hfz191_1
            try clear hfz199_0
            try clear hfz199_1
            try clear hfz19_0
            try clear hfz19_1
            try clear hfz202_0
            try clear hfz202_1
            try clear hfz211_0
            try clear hfz211_1
            try clear hfz219_0
            try clear hfz219_1
            try clear hfz227_0
            try clear hfz227_1
            try clear hfz22_0
            try clear hfz22_1
            try clear hfz27_0
            try clear hfz27_1
            try clear hfz30_0
            try clear hfz30_1
            try clear hfz36_0
            try clear hfz36_1
            try clear hfz43_0
            try clear hfz43_1
            try clear hfz45_0
            try clear hfz45_1
            try clear hfz52_0
            try clear hfz52_1
            try clear hfz67_0
            try clear hfz67_1
            try clear hfz71_0
            try clear hfz71_1
            try clear hfz77_0
            try clear hfz77_1
            try clear hfz81_0
            try clear hfz81_1
            try clear hfz87_0
            try clear hfz87_1
            try clear hfz91_0
            try clear hfz91_1
            try clear p2
            try clear p6
            try clear p64
            obtain ⟨kq, HA, HJ179, HO_400001, HO_410001, HO_420001, HO_426001, HO_432001, BK399, BK409, BK419, BK425, BK431, HB⟩ := hcut
            cases kq with
            | zero => exact absurd HA.out (by simp [laws_FnCurrents.j4])
            | succ kj179 =>
             have H := HA.out
             clear HA
             simp only [laws_FnCurrents.j4] at H
             have HC230 := Aside0.mk H
             clear H
             go_upto_region 36 with (fail)
             go_cut [246] (fun v246 wc => ∃ (kq : Nat) (x246_229 : Bool), v246 = .bool x246_229 ∧ Aside0 (laws_FnCurrents.j5 kq t398 t400 x246_229 t394 t395 = some r) ∧ Aside0 (kq ≤ kj179) ∧ Aside0 (Kd.R (Kd.int .i64) 2 wc w.heap.size (fun k_ => some k_ ≠ ((.slice Ao28 t405.length co28) : Value).ownBlock ∧ some k_ ≠ ((.slice Ao37 t415.length co37) : Value).ownBlock ∧ some k_ ≠ ((.slice Ao44 t421.length co44) : Value).ownBlock ∧ some k_ ≠ ((.slice Ao53 t427.length co53) : Value).ownBlock) (.slice Ao20 t395.length co20) t395) ∧ Aside0 (Kd.R (Kd.int .i64) 2 wc w.heap.size (fun k_ => some k_ ≠ ((.slice Ao20 t395.length co20) : Value).ownBlock ∧ some k_ ≠ ((.slice Ao37 t415.length co37) : Value).ownBlock ∧ some k_ ≠ ((.slice Ao44 t421.length co44) : Value).ownBlock ∧ some k_ ≠ ((.slice Ao53 t427.length co53) : Value).ownBlock) (.slice Ao28 t405.length co28) t405) ∧ Aside0 (Kd.R (Kd.int .i64) 2 wc w.heap.size (fun k_ => some k_ ≠ ((.slice Ao20 t395.length co20) : Value).ownBlock ∧ some k_ ≠ ((.slice Ao28 t405.length co28) : Value).ownBlock ∧ some k_ ≠ ((.slice Ao44 t421.length co44) : Value).ownBlock ∧ some k_ ≠ ((.slice Ao53 t427.length co53) : Value).ownBlock) (.slice Ao37 t415.length co37) t415) ∧ Aside0 (Kd.R (Kd.int .i64) 2 wc w.heap.size (fun k_ => some k_ ≠ ((.slice Ao20 t395.length co20) : Value).ownBlock ∧ some k_ ≠ ((.slice Ao28 t405.length co28) : Value).ownBlock ∧ some k_ ≠ ((.slice Ao37 t415.length co37) : Value).ownBlock ∧ some k_ ≠ ((.slice Ao53 t427.length co53) : Value).ownBlock) (.slice Ao44 t421.length co44) t421) ∧ Aside0 (Kd.R (Kd.int .i64) 2 wc w.heap.size (fun k_ => some k_ ≠ ((.slice Ao20 t395.length co20) : Value).ownBlock ∧ some k_ ≠ ((.slice Ao28 t405.length co28) : Value).ownBlock ∧ some k_ ≠ ((.slice Ao37 t415.length co37) : Value).ownBlock ∧ some k_ ≠ ((.slice Ao44 t421.length co44) : Value).ownBlock) (.slice Ao53 t427.length co53) t427) ∧ Aside0 (wc.heap[gb399]? = some (.cells #[.int .i64 t394, (.slice Ao20 t395.length co20)] 118 (0, 0))) ∧ Aside0 (wc.heap[gb409]? = some (.cells #[.int .i64 t404, (.slice Ao28 t405.length co28)] 118 (0, 0))) ∧ Aside0 (wc.heap[gb419]? = some (.cells #[.int .i64 t414, (.slice Ao37 t415.length co37)] 118 (0, 0))) ∧ Aside0 (wc.heap[gb425]? = some (.cells #[.int .i64 t420, (.slice Ao44 t421.length co44)] 118 (0, 0))) ∧ Aside0 (wc.heap[gb431]? = some (.cells #[.int .i64 t426, (.slice Ao53 t427.length co53)] 118 (0, 0))) ∧ Aside0 (Below w.heap.size w wc))
             case first =>
              have H := HC230.out
              clear HC230
              by_cases c231 : t401 = 0
              ·rw [if_pos c231] at H
               have c231b0 : (t401 == 0) = true := beq_iff_eq.mpr c231
               have c231b1 : (t401 != 0) = false := bne_eq_false_iff_eq.mpr c231
               clear c231
               (first | rw [c231b0] | (simp only [i64_w, i32_w]; rw [c231b0]) | skip)
               have H' := Aside0.mk H
               clear H
               go_wp2
               go_meet
               case rel => exact ⟨_, (decide (t400 > 1000)), (by first | rfl | (simp; done) | (simp [*]; done)), H', ⟨by have := HJ15.out; have := HJ93.out; have := HJ179.out; first | omega | exact Nat.le_refl _⟩, ⟨by (with_reducible repeat (first | apply Kd.R_alloc | apply Kd.R_drewN | apply Kd.R_drew)); exact HO_400001.out⟩, ⟨by (with_reducible repeat (first | apply Kd.R_alloc | apply Kd.R_drewN | apply Kd.R_drew)); exact HO_410001.out⟩, ⟨by (with_reducible repeat (first | apply Kd.R_alloc | apply Kd.R_drewN | apply Kd.R_drew)); exact HO_420001.out⟩, ⟨by (with_reducible repeat (first | apply Kd.R_alloc | apply Kd.R_drewN | apply Kd.R_drew)); exact HO_426001.out⟩, ⟨by (with_reducible repeat (first | apply Kd.R_alloc | apply Kd.R_drewN | apply Kd.R_drew)); exact HO_432001.out⟩, ⟨by (with_reducible repeat (first | refine blk_drewN ?_ _ | refine blk_drew ?_ | refine blk_alloc ?_ _)); exact BK399.out⟩, ⟨by (with_reducible repeat (first | refine blk_drewN ?_ _ | refine blk_drew ?_ | refine blk_alloc ?_ _)); exact BK409.out⟩, ⟨by (with_reducible repeat (first | refine blk_drewN ?_ _ | refine blk_drew ?_ | refine blk_alloc ?_ _)); exact BK419.out⟩, ⟨by (with_reducible repeat (first | refine blk_drewN ?_ _ | refine blk_drew ?_ | refine blk_alloc ?_ _)); exact BK425.out⟩, ⟨by (with_reducible repeat (first | refine blk_drewN ?_ _ | refine blk_drew ?_ | refine blk_alloc ?_ _)); exact BK431.out⟩, ⟨by repeat (first | (with_reducible first | exact HB.out | apply below_alloc | apply pw_below_drewN | apply below_drew1 | refine below_set ?_ GE399.out | refine below_set ?_ GE409.out | refine below_set ?_ GE419.out | refine below_set ?_ GE425.out | refine below_set ?_ GE431.out) | exact HB.out)⟩⟩
              ·rw [if_neg c231] at H
               have c231b0 : (t401 == 0) = false := beq_eq_false_iff_ne.mpr c231
               have c231b1 : (t401 != 0) = true := bne_iff_ne.mpr c231
               (first | rw [c231b0] | (simp only [i64_w, i32_w]; rw [c231b0]) | skip)
               have H' := Aside0.mk H
               clear H
               go_wp2
               go_meet
               case rel => exact ⟨_, (true), (by first | rfl | (simp; done) | (simp [*]; done)), H', ⟨by have := HJ15.out; have := HJ93.out; have := HJ179.out; first | omega | exact Nat.le_refl _⟩, ⟨by (with_reducible repeat (first | apply Kd.R_alloc | apply Kd.R_drewN | apply Kd.R_drew)); exact HO_400001.out⟩, ⟨by (with_reducible repeat (first | apply Kd.R_alloc | apply Kd.R_drewN | apply Kd.R_drew)); exact HO_410001.out⟩, ⟨by (with_reducible repeat (first | apply Kd.R_alloc | apply Kd.R_drewN | apply Kd.R_drew)); exact HO_420001.out⟩, ⟨by (with_reducible repeat (first | apply Kd.R_alloc | apply Kd.R_drewN | apply Kd.R_drew)); exact HO_426001.out⟩, ⟨by (with_reducible repeat (first | apply Kd.R_alloc | apply Kd.R_drewN | apply Kd.R_drew)); exact HO_432001.out⟩, ⟨by (with_reducible repeat (first | refine blk_drewN ?_ _ | refine blk_drew ?_ | refine blk_alloc ?_ _)); exact BK399.out⟩, ⟨by (with_reducible repeat (first | refine blk_drewN ?_ _ | refine blk_drew ?_ | refine blk_alloc ?_ _)); exact BK409.out⟩, ⟨by (with_reducible repeat (first | refine blk_drewN ?_ _ | refine blk_drew ?_ | refine blk_alloc ?_ _)); exact BK419.out⟩, ⟨by (with_reducible repeat (first | refine blk_drewN ?_ _ | refine blk_drew ?_ | refine blk_alloc ?_ _)); exact BK425.out⟩, ⟨by (with_reducible repeat (first | refine blk_drewN ?_ _ | refine blk_drew ?_ | refine blk_alloc ?_ _)); exact BK431.out⟩, ⟨by repeat (first | (with_reducible first | exact HB.out | apply below_alloc | apply pw_below_drewN | apply below_drew1 | refine below_set ?_ GE399.out | refine below_set ?_ GE409.out | refine below_set ?_ GE419.out | refine below_set ?_ GE425.out | refine below_set ?_ GE431.out) | exact HB.out)⟩⟩
             case rest =>
              as_aux_lemma =>
               clear HC230
               try clear c1
               try clear c2
               try clear p2
               try clear c3
               try clear c4
               try clear c5
               try clear c6
               try clear p6
               try clear c7
               try clear c8
               try clear c9
               try clear c10
               try clear c11
               try clear c12
               try clear c13
               try clear c14
               try clear c15
               try clear c16
               try clear c17
               try clear c18
               try clear c19
               try clear c20
               try clear c21
               try clear c22
               try clear c23
               try clear c26
               try clear c29
               try clear c34
               try clear c35
               try clear c40
               try clear c41
               try clear c42
               try clear c48
               try clear c49
               try clear c50
               try clear c51
               try clear c55
               try clear c55b0
               try clear c55b1
               try clear c56
               try clear c56b0
               try clear c56b1
               try clear c57
               try clear c57b0
               try clear c57b1
               try clear c58
               try clear c58b0
               try clear c58b1
               try clear c59
               try clear c59b0
               try clear c59b1
               try clear c61
               try clear c62
               try clear c62b0
               try clear c62b1
               try clear c63
               try clear c64
               try clear p64
               try clear c65
               try clear c66
               try clear c68
               try clear c69
               try clear c70
               try clear c73
               try clear c74
               try clear c75
               try clear c76
               try clear c78
               try clear c79
               try clear c80
               try clear c83
               try clear c84
               try clear c85
               try clear c86
               try clear c88
               try clear c89
               try clear c90
               try clear c91
               try clear c92
               try clear c93
               try clear c94
               try clear c95
               try clear c95b0
               try clear c95b1
               try clear c96
               try clear c97
               try clear c98
               try clear c99
               try clear c100
               try clear c101
               try clear c102
               try clear c103
               try clear c105
               try clear c106
               try clear c107
               try clear c110
               try clear c110b0
               try clear c110b1
               try clear c111
               try clear c111b0
               try clear c111b1
               try clear c112
               try clear c117
               try clear c117b0
               try clear c117b1
               try clear c118
               try clear c118b0
               try clear c118b1
               try clear c119
               try clear c119b0
               try clear c122
               try clear c123
               try clear c124
               try clear c125
               try clear c126
               try clear c129
               try clear c130
               try clear c131
               try clear c132
               try clear c137
               try clear c138
               try clear c139
               try clear c140
               try clear c141
               try clear c144
               try clear c145
               try clear c146
               try clear c147
               try clear c152
               try clear c153
               try clear c154
               try clear c155
               try clear c156
               try clear c159
               try clear c160
               try clear c161
               try clear c162
               try clear c167
               try clear c168
               try clear c169
               try clear c170
               try clear c171
               try clear c174
               try clear c175
               try clear c176
               try clear c177
               try clear c181
               try clear c181b0
               try clear c181b1
               try clear c186
               try clear c187
               try clear c188
               try clear c189
               try clear c190
               try clear c192
               try clear c192b0
               try clear c193
               try clear c194
               try clear c195
               try clear c196
               try clear c197
               try clear c198
               try clear c204
               try clear c204b0
               try clear c204b1
               try clear c205
               try clear c205b0
               try clear c206
               try clear c207
               try clear c208
               try clear c209
               try clear c210
               try clear c214
               try clear c215
               try clear c216
               try clear c217
               try clear c218
               try clear c222
               try clear c223
               try clear c224
               try clear c225
               try clear c226
               try clear c231
               try clear c231b0
               try clear c231b1
               try clear hcz103_0
               try clear hcz103_1
               try clear hcz108_0
               try clear hcz108_1
               try clear hcz127_0
               try clear hcz127_1
               try clear hcz133_0
               try clear hcz133_1
               try clear hcz142_0
               try clear hcz142_1
               try clear hcz148_0
               try clear hcz148_1
               try clear hcz157_0
               try clear hcz157_1
               try clear hcz163_0
               try clear hcz163_1
               try clear hcz172_0
               try clear hcz172_1
               try clear hcz178_0
               try clear hcz178_1
               try clear hcz191_0
               try clear hcz191_1
               try clear hcz199_0
               try clear hcz199_1
               try clear hcz19_0
               try clear hcz19_1
               try clear hcz202_0
               try clear hcz202_1
               try clear hcz211_0
               try clear hcz211_1
               try clear hcz219_0
               try clear hcz219_1
               try clear hcz227_0
               try clear hcz227_1
               try clear hcz22_0
               try clear hcz22_1
               try clear hcz27_0
               try clear hcz27_1
               try clear hcz30_0
               try clear hcz30_1
               try clear hcz36_0
               try clear hcz36_1
               try clear hcz43_0
               try clear hcz43_1
               try clear hcz45_0
               try clear hcz45_1
               try clear hcz52_0
               try clear hcz52_1
               try clear hcz67_0
               try clear hcz67_1
               try clear hcz71_0
               try clear hcz71_1
               try clear hcz77_0
               try clear hcz77_1
               try clear hcz81_0
               try clear hcz81_1
               try clear hcz87_0
               try clear hcz87_1
               try clear hcz91_0
               try clear hcz91_1
               try clear hfz103_0
               try clear hfz103_1
               try clear hfz108_0
               try clear hfz108_1
               try clear hfz127_0
               try clear hfz127_1
               try clear hfz133_0
               try clear hfz133_1
               try clear hfz142_0
               try clear hfz142_1
               try clear hfz148_0
               try clear hfz148_1
               try clear hfz157_0
               try clear hfz157_1
               try clear hfz163_0
               try clear hfz163_1
               try clear hfz172_0
               try clear hfz172_1
               try clear hfz178_0
               try clear hfz178_1
               try clear hfz191_0
               try clear hfz191_1
               try clear hfz199_0
               try clear hfz199_1
               try clear hfz19_0
               try clear hfz19_1
               try clear hfz202_0
               try clear hfz202_1
               try clear hfz211_0
               try clear hfz211_1
               try clear hfz219_0
               try clear hfz219_1
               try clear hfz227_0
               try clear hfz227_1
               try clear hfz22_0
               try clear hfz22_1
               try clear hfz27_0
               try clear hfz27_1
               try clear hfz30_0
               try clear hfz30_1
               try clear hfz36_0
               try clear hfz36_1
               try clear hfz43_0
               try clear hfz43_1
               try clear hfz45_0
               try clear hfz45_1
               try clear hfz52_0
               try clear hfz52_1
               try clear hfz67_0
               try clear hfz67_1
               try clear hfz71_0
               try clear hfz71_1
               try clear hfz77_0
               try clear hfz77_1
               try clear hfz81_0
               try clear hfz81_1
               try clear hfz87_0
               try clear hfz87_1
               try clear hfz91_0
               try clear hfz91_1
               try clear p2
               try clear p6
               try clear p64
               obtain ⟨kq, x246_229, rfl, HA, HJ229, HO_400001, HO_410001, HO_420001, HO_426001, HO_432001, BK399, BK409, BK419, BK425, BK431, HB⟩ := hcut
               cases kq with
               | zero => exact absurd HA.out (by simp [laws_FnCurrents.j5])
               | succ kj229 =>
                have H := HA.out
                clear HA
                simp only [laws_FnCurrents.j5] at H
                by_cases c232 : x246_229 = true
                ·subst c232
                 have H1 : (some true) = some r := by rw [if_pos rfl] at H; exact H
                 clear H
                 have H := H1
                 clear H1
                 obtain rfl := Option.some.inj H
                 go_wp2
                 go_ret
                 exact ⟨by first | rfl | (simp [errW_none, errW_some] <;> rfl) | (simp [*, errW_none, errW_some] <;> rfl), by repeat (first | (with_reducible first | exact HB.out | apply below_alloc | apply pw_below_drewN | apply below_drew1 | refine below_set ?_ GE399.out | refine below_set ?_ GE409.out | refine below_set ?_ GE419.out | refine below_set ?_ GE425.out | refine below_set ?_ GE431.out) | exact HB.out)⟩
                ·as_aux_lemma =>
                  replace c232 := Bool.eq_false_iff.mpr c232
                  subst c232
                  have H1 : ((impl_CurrentOf.f kj229 t394 t395 t400).bind fun bt465 => (if bt465.2 = 0 then (laws_FnCurrents.j6 kj229 t398 t400 (decide (bt465.1 < t398)) t394 t395) else (laws_FnCurrents.j6 kj229 t398 t400 true t394 t395))) = some r := by rw [if_neg (show ¬ (false = true) by decide)] at H; exact H
                  clear H
                  have H := H1
                  clear H1
                  replace H := Option.bind_eq_some_iff.mp H
                  obtain ⟨⟨t465, t466⟩, A2330, H⟩ := H
                  replace H : (if t466 = 0 then (laws_FnCurrents.j6 kj229 t398 t400 (decide (t465 < t398)) t394 t395) else (laws_FnCurrents.j6 kj229 t398 t400 true t394 t395)) = some r := H
                  have A233 := Aside0.mk A2330
                  clear A2330
                  have HC234 := Aside0.mk H
                  clear H
                  have hnb235 := NB399_409.out
                  have hnc235 := NB409_399.out
                  have hnb236 := NB399_419.out
                  have hnc236 := NB419_399.out
                  have hnb237 := NB399_425.out
                  have hnc237 := NB425_399.out
                  have hnb238 := NB399_431.out
                  have hnc238 := NB431_399.out
                  have hcz239_0 : wc.cell? ⟨gb399, 0, none⟩ = some (.int .i64 t394) := (blk_cell BK399.out 0).trans rfl
                  have hcz239_1 : wc.cell? ⟨gb399, 1, none⟩ = some (.slice Ao20 t395.length co20) := (blk_cell BK399.out 1).trans rfl
                  have hfz239_0 := blk_frozen BK399.out 0
                  have hfz239_1 := blk_frozen BK399.out 1
                  go_upto_region 39 with (first | ((with_reducible refine gate_callee (f := 94) rfl ?_); refine goesL_ (some 250) rfl rfl Try.func94 (by kernel_rfl) rfl #[.agg #[.int .i64 t394, .slice Ao20 t395.length co20], .int .i64 t400] rfl (by (try simp only [List.map_toArray, List.map_cons, List.map_nil]); first | done | rfl | (simp only [List.length_drop, List.length_take]; rfl)) ?_; (with_reducible refine (impl_CurrentOf.calls kj229 t394 _ _ t395 t400 t465 t466 _ ?side1 ?side2 A233.out).mono ?_); (case side1 => repeat (first | exact (Kd.R_reads' HO_400001.out).2.2 | (with_reducible refine Kd.C_alloc ?_ _) | (with_reducible refine Kd.C_drewN ?_ _) | (with_reducible refine Kd.C_drew ?_))); (case side2 => exact (Kd.R_reads' HO_400001.out).2.1); rintro e w240 ⟨rfl, hb⟩; refine ⟨_, rfl, ?_⟩; have n0_ := Aside0.mk (Kd.R_below (by (with_reducible repeat (first | apply Kd.R_alloc | apply Kd.R_drewN | apply Kd.R_drew)); exact HO_400001.out) hb); have n1_ := Aside0.mk (Kd.R_below (by (with_reducible repeat (first | apply Kd.R_alloc | apply Kd.R_drewN | apply Kd.R_drew)); exact HO_410001.out) hb); have n2_ := Aside0.mk (Kd.R_below (by (with_reducible repeat (first | apply Kd.R_alloc | apply Kd.R_drewN | apply Kd.R_drew)); exact HO_420001.out) hb); have n3_ := Aside0.mk (Kd.R_below (by (with_reducible repeat (first | apply Kd.R_alloc | apply Kd.R_drewN | apply Kd.R_drew)); exact HO_426001.out) hb); have n4_ := Aside0.mk (Kd.R_below (by (with_reducible repeat (first | apply Kd.R_alloc | apply Kd.R_drewN | apply Kd.R_drew)); exact HO_432001.out) hb); have n5_ := Aside0.mk (blk_below (g := gb399) (o := .cells #[.int .i64 t394, .slice Ao20 t395.length co20] 118 (0, 0)) (by (with_reducible repeat (first | refine blk_drewN ?_ _ | refine blk_drew ?_ | refine blk_alloc ?_ _)); exact BK399.out) hb); have n6_ := Aside0.mk (blk_below (g := gb409) (o := .cells #[.int .i64 t404, .slice Ao28 t405.length co28] 118 (0, 0)) (by (with_reducible repeat (first | refine blk_drewN ?_ _ | refine blk_drew ?_ | refine blk_alloc ?_ _)); exact BK409.out) hb); have n7_ := Aside0.mk (blk_below (g := gb419) (o := .cells #[.int .i64 t414, .slice Ao37 t415.length co37] 118 (0, 0)) (by (with_reducible repeat (first | refine blk_drewN ?_ _ | refine blk_drew ?_ | refine blk_alloc ?_ _)); exact BK419.out) hb); have n8_ := Aside0.mk (blk_below (g := gb425) (o := .cells #[.int .i64 t420, .slice Ao44 t421.length co44] 118 (0, 0)) (by (with_reducible repeat (first | refine blk_drewN ?_ _ | refine blk_drew ?_ | refine blk_alloc ?_ _)); exact BK425.out) hb); have n9_ := Aside0.mk (blk_below (g := gb431) (o := .cells #[.int .i64 t426, .slice Ao53 t427.length co53] 118 (0, 0)) (by (with_reducible repeat (first | refine blk_drewN ?_ _ | refine blk_drew ?_ | refine blk_alloc ?_ _)); exact BK431.out) hb); have n10_ := Aside0.mk (below_step (by repeat (first | (with_reducible first | exact HB.out | apply below_alloc | apply pw_below_drewN | apply below_drew1 | refine below_set ?_ GE399.out | refine below_set ?_ GE409.out | refine below_set ?_ GE419.out | refine below_set ?_ GE425.out | refine below_set ?_ GE431.out) | exact HB.out)) hb); clear HO_400001; clear HO_410001; clear HO_420001; clear HO_426001; clear HO_432001; clear BK399; clear BK409; clear BK419; clear BK425; clear BK431; clear HB; have HO_400001 := n0_; have HO_410001 := n1_; have HO_420001 := n2_; have HO_426001 := n3_; have HO_432001 := n4_; have BK399 := n5_; have BK409 := n6_; have BK419 := n7_; have BK425 := n8_; have BK431 := n9_; have HB := n10_; clear n0_ n1_ n2_ n3_ n4_ n5_ n6_ n7_ n8_ n9_ n10_; (try clear hb); (try clear hb2); (try clear hk); (try clear hi)))
                  (try simp only [Act.put, List.setIfInBounds_toArray, List.set_cons_zero, List.set_cons_succ])
                  go_cut [259] (fun v259 wc => ∃ (kq : Nat) (x259_233 : Bool), v259 = .bool x259_233 ∧ Aside0 (laws_FnCurrents.j6 kq t398 t400 x259_233 t394 t395 = some r) ∧ Aside0 (kq ≤ kj229) ∧ Aside0 (Kd.R (Kd.int .i64) 2 wc w.heap.size (fun k_ => some k_ ≠ ((.slice Ao28 t405.length co28) : Value).ownBlock ∧ some k_ ≠ ((.slice Ao37 t415.length co37) : Value).ownBlock ∧ some k_ ≠ ((.slice Ao44 t421.length co44) : Value).ownBlock ∧ some k_ ≠ ((.slice Ao53 t427.length co53) : Value).ownBlock) (.slice Ao20 t395.length co20) t395) ∧ Aside0 (Kd.R (Kd.int .i64) 2 wc w.heap.size (fun k_ => some k_ ≠ ((.slice Ao20 t395.length co20) : Value).ownBlock ∧ some k_ ≠ ((.slice Ao37 t415.length co37) : Value).ownBlock ∧ some k_ ≠ ((.slice Ao44 t421.length co44) : Value).ownBlock ∧ some k_ ≠ ((.slice Ao53 t427.length co53) : Value).ownBlock) (.slice Ao28 t405.length co28) t405) ∧ Aside0 (Kd.R (Kd.int .i64) 2 wc w.heap.size (fun k_ => some k_ ≠ ((.slice Ao20 t395.length co20) : Value).ownBlock ∧ some k_ ≠ ((.slice Ao28 t405.length co28) : Value).ownBlock ∧ some k_ ≠ ((.slice Ao44 t421.length co44) : Value).ownBlock ∧ some k_ ≠ ((.slice Ao53 t427.length co53) : Value).ownBlock) (.slice Ao37 t415.length co37) t415) ∧ Aside0 (Kd.R (Kd.int .i64) 2 wc w.heap.size (fun k_ => some k_ ≠ ((.slice Ao20 t395.length co20) : Value).ownBlock ∧ some k_ ≠ ((.slice Ao28 t405.length co28) : Value).ownBlock ∧ some k_ ≠ ((.slice Ao37 t415.length co37) : Value).ownBlock ∧ some k_ ≠ ((.slice Ao53 t427.length co53) : Value).ownBlock) (.slice Ao44 t421.length co44) t421) ∧ Aside0 (Kd.R (Kd.int .i64) 2 wc w.heap.size (fun k_ => some k_ ≠ ((.slice Ao20 t395.length co20) : Value).ownBlock ∧ some k_ ≠ ((.slice Ao28 t405.length co28) : Value).ownBlock ∧ some k_ ≠ ((.slice Ao37 t415.length co37) : Value).ownBlock ∧ some k_ ≠ ((.slice Ao44 t421.length co44) : Value).ownBlock) (.slice Ao53 t427.length co53) t427) ∧ Aside0 (wc.heap[gb399]? = some (.cells #[.int .i64 t394, (.slice Ao20 t395.length co20)] 118 (0, 0))) ∧ Aside0 (wc.heap[gb409]? = some (.cells #[.int .i64 t404, (.slice Ao28 t405.length co28)] 118 (0, 0))) ∧ Aside0 (wc.heap[gb419]? = some (.cells #[.int .i64 t414, (.slice Ao37 t415.length co37)] 118 (0, 0))) ∧ Aside0 (wc.heap[gb425]? = some (.cells #[.int .i64 t420, (.slice Ao44 t421.length co44)] 118 (0, 0))) ∧ Aside0 (wc.heap[gb431]? = some (.cells #[.int .i64 t426, (.slice Ao53 t427.length co53)] 118 (0, 0))) ∧ Aside0 (Below w.heap.size w wc))
                  case first =>
                   have H := HC234.out
                   clear HC234
                   by_cases c241 : t466 = 0
                   case neg =>
                    rw [if_neg c241] at H
                    have c241b0 : (t466 == 0) = false := beq_eq_false_iff_ne.mpr c241
                    have c241b1 : (t466 != 0) = true := bne_iff_ne.mpr c241
                    (first | rw [c241b0] | (simp only [i64_w, i32_w]; rw [c241b0]) | skip)
                    exact absurd ((laws_FnCurrents.j6_true H).trans hT) (by decide)
                   rw [if_pos c241] at H
                   have c241b0 : (t466 == 0) = true := beq_iff_eq.mpr c241
                   have c241b1 : (t466 != 0) = false := bne_eq_false_iff_eq.mpr c241
                   clear c241
                   (first | rw [c241b0] | (simp only [i64_w, i32_w]; rw [c241b0]) | skip)
                   have H' := Aside0.mk H
                   clear H
                   go_wp2
                   go_meet
                   case rel => exact ⟨_, (decide (t465 < t398)), (by first | rfl | (simp; done) | (simp [*]; done)), H', ⟨by have := HJ15.out; have := HJ93.out; have := HJ179.out; have := HJ229.out; first | omega | exact Nat.le_refl _⟩, ⟨by (with_reducible repeat (first | apply Kd.R_alloc | apply Kd.R_drewN | apply Kd.R_drew)); exact HO_400001.out⟩, ⟨by (with_reducible repeat (first | apply Kd.R_alloc | apply Kd.R_drewN | apply Kd.R_drew)); exact HO_410001.out⟩, ⟨by (with_reducible repeat (first | apply Kd.R_alloc | apply Kd.R_drewN | apply Kd.R_drew)); exact HO_420001.out⟩, ⟨by (with_reducible repeat (first | apply Kd.R_alloc | apply Kd.R_drewN | apply Kd.R_drew)); exact HO_426001.out⟩, ⟨by (with_reducible repeat (first | apply Kd.R_alloc | apply Kd.R_drewN | apply Kd.R_drew)); exact HO_432001.out⟩, ⟨by (with_reducible repeat (first | refine blk_drewN ?_ _ | refine blk_drew ?_ | refine blk_alloc ?_ _)); exact BK399.out⟩, ⟨by (with_reducible repeat (first | refine blk_drewN ?_ _ | refine blk_drew ?_ | refine blk_alloc ?_ _)); exact BK409.out⟩, ⟨by (with_reducible repeat (first | refine blk_drewN ?_ _ | refine blk_drew ?_ | refine blk_alloc ?_ _)); exact BK419.out⟩, ⟨by (with_reducible repeat (first | refine blk_drewN ?_ _ | refine blk_drew ?_ | refine blk_alloc ?_ _)); exact BK425.out⟩, ⟨by (with_reducible repeat (first | refine blk_drewN ?_ _ | refine blk_drew ?_ | refine blk_alloc ?_ _)); exact BK431.out⟩, ⟨by repeat (first | (with_reducible first | exact HB.out | apply below_alloc | apply pw_below_drewN | apply below_drew1 | refine below_set ?_ GE399.out | refine below_set ?_ GE409.out | refine below_set ?_ GE419.out | refine below_set ?_ GE425.out | refine below_set ?_ GE431.out) | exact HB.out)⟩⟩
                  case rest =>
                   clear HC234
                   try clear c1
                   try clear c2
                   try clear p2
                   try clear c3
                   try clear c4
                   try clear c5
                   try clear c6
                   try clear p6
                   try clear c7
                   try clear c8
                   try clear c9
                   try clear c10
                   try clear c11
                   try clear c12
                   try clear c13
                   try clear c14
                   try clear c15
                   try clear c16
                   try clear c17
                   try clear c18
                   try clear c19
                   try clear c20
                   try clear c21
                   try clear c22
                   try clear c23
                   try clear c24
                   try clear c26
                   try clear c29
                   try clear c34
                   try clear c35
                   try clear c40
                   try clear c41
                   try clear c42
                   try clear c48
                   try clear c49
                   try clear c50
                   try clear c51
                   try clear c55
                   try clear c55b0
                   try clear c55b1
                   try clear c56
                   try clear c56b0
                   try clear c56b1
                   try clear c57
                   try clear c57b0
                   try clear c57b1
                   try clear c58
                   try clear c58b0
                   try clear c58b1
                   try clear c59
                   try clear c59b0
                   try clear c59b1
                   try clear c61
                   try clear c62
                   try clear c62b0
                   try clear c62b1
                   try clear c63
                   try clear c64
                   try clear p64
                   try clear c65
                   try clear c66
                   try clear c68
                   try clear c69
                   try clear c70
                   try clear c73
                   try clear c74
                   try clear c75
                   try clear c76
                   try clear c78
                   try clear c79
                   try clear c80
                   try clear c83
                   try clear c84
                   try clear c85
                   try clear c86
                   try clear c88
                   try clear c89
                   try clear c90
                   try clear c91
                   try clear c92
                   try clear c93
                   try clear c94
                   try clear c95
                   try clear c95b0
                   try clear c95b1
                   try clear c96
                   try clear c97
                   try clear c98
                   try clear c99
                   try clear c100
                   try clear c101
                   try clear c102
                   try clear c103
                   try clear c105
                   try clear c106
                   try clear c107
                   try clear c110
                   try clear c110b0
                   try clear c110b1
                   try clear c111
                   try clear c111b0
                   try clear c111b1
                   try clear c112
                   try clear c117
                   try clear c117b0
                   try clear c117b1
                   try clear c118
                   try clear c118b0
                   try clear c118b1
                   try clear c119
                   try clear c119b0
                   try clear c122
                   try clear c123
                   try clear c124
                   try clear c125
                   try clear c126
                   try clear c129
                   try clear c130
                   try clear c131
                   try clear c132
                   try clear c137
                   try clear c138
                   try clear c139
                   try clear c140
                   try clear c141
                   try clear c144
                   try clear c145
                   try clear c146
                   try clear c147
                   try clear c152
                   try clear c153
                   try clear c154
                   try clear c155
                   try clear c156
                   try clear c159
                   try clear c160
                   try clear c161
                   try clear c162
                   try clear c167
                   try clear c168
                   try clear c169
                   try clear c170
                   try clear c171
                   try clear c174
                   try clear c175
                   try clear c176
                   try clear c177
                   try clear c181
                   try clear c181b0
                   try clear c181b1
                   try clear c186
                   try clear c187
                   try clear c188
                   try clear c189
                   try clear c190
                   try clear c192
                   try clear c192b0
                   try clear c193
                   try clear c194
                   try clear c195
                   try clear c196
                   try clear c197
                   try clear c198
                   try clear c204
                   try clear c204b0
                   try clear c204b1
                   try clear c205
                   try clear c205b0
                   try clear c206
                   try clear c207
                   try clear c208
                   try clear c209
                   try clear c210
                   try clear c214
                   try clear c215
                   try clear c216
                   try clear c217
                   try clear c218
                   try clear c222
                   try clear c223
                   try clear c224
                   try clear c225
                   try clear c226
                   try clear c231
                   try clear c231b0
                   try clear c231b1
                   try clear c232
                   try clear c235
                   try clear c236
                   try clear c237
                   try clear c238
                   try clear c241
                   try clear c241b0
                   try clear c241b1
                   try clear hcz103_0
                   try clear hcz103_1
                   try clear hcz108_0
                   try clear hcz108_1
                   try clear hcz127_0
                   try clear hcz127_1
                   try clear hcz133_0
                   try clear hcz133_1
                   try clear hcz142_0
                   try clear hcz142_1
                   try clear hcz148_0
                   try clear hcz148_1
                   try clear hcz157_0
                   try clear hcz157_1
                   try clear hcz163_0
                   try clear hcz163_1
                   try clear hcz172_0
                   try clear hcz172_1
                   try clear hcz178_0
                   try clear hcz178_1
                   try clear hcz191_0
                   try clear hcz191_1
                   try clear hcz199_0
                   try clear hcz199_1
                   try clear hcz19_0
                   try clear hcz19_1
                   try clear hcz202_0
                   try clear hcz202_1
                   try clear hcz211_0
                   try clear hcz211_1
                   try clear hcz219_0
                   try clear hcz219_1
                   try clear hcz227_0
                   try clear hcz227_1
                   try clear hcz22_0
                   try clear hcz22_1
                   try clear hcz239_0
                   try clear hcz239_1
                   try clear hcz27_0
                   try clear hcz27_1
                   try clear hcz30_0
                   try clear hcz30_1
                   try clear hcz36_0
                   try clear hcz36_1
                   try clear hcz43_0
                   try clear hcz43_1
                   try clear hcz45_0
                   try clear hcz45_1
                   try clear hcz52_0
                   try clear hcz52_1
                   try clear hcz67_0
                   try clear hcz67_1
                   try clear hcz71_0
                   try clear hcz71_1
                   try clear hcz77_0
                   try clear hcz77_1
                   try clear hcz81_0
                   try clear hcz81_1
                   try clear hcz87_0
                   try clear hcz87_1
                   try clear hcz91_0
                   try clear hcz91_1
                   try clear hfz103_0
                   try clear hfz103_1
                   try clear hfz108_0
                   try clear hfz108_1
                   try clear hfz127_0
                   try clear hfz127_1
                   try clear hfz133_0
                   try clear hfz133_1
                   try clear hfz142_0
                   try clear hfz142_1
                   try clear hfz148_0
                   try clear hfz148_1
                   try clear hfz157_0
                   try clear hfz157_1
                   try clear hfz163_0
                   try clear hfz163_1
                   try clear hfz172_0
                   try clear hfz172_1
                   try clear hfz178_0
                   try clear hfz178_1
                   try clear hfz191_0
                   try clear hfz191_1
                   try clear hfz199_0
                   try clear hfz199_1
                   try clear hfz19_0
                   try clear hfz19_1
                   try clear hfz202_0
                   try clear hfz202_1
                   try clear hfz211_0
                   try clear hfz211_1
                   try clear hfz219_0
                   try clear hfz219_1
                   try clear hfz227_0
                   try clear hfz227_1
                   try clear hfz22_0
                   try clear hfz22_1
                   try clear hfz239_0
                   try clear hfz239_1
                   try clear hfz27_0
                   try clear hfz27_1
                   try clear hfz30_0
                   try clear hfz30_1
                   try clear hfz36_0
                   try clear hfz36_1
                   try clear hfz43_0
                   try clear hfz43_1
                   try clear hfz45_0
                   try clear hfz45_1
                   try clear hfz52_0
                   try clear hfz52_1
                   try clear hfz67_0
                   try clear hfz67_1
                   try clear hfz71_0
                   try clear hfz71_1
                   try clear hfz77_0
                   try clear hfz77_1
                   try clear hfz81_0
                   try clear hfz81_1
                   try clear hfz87_0
                   try clear hfz87_1
                   try clear hfz91_0
                   try clear hfz91_1
                   try clear p2
                   try clear p6
                   try clear p64
                   obtain ⟨kq, x259_233, rfl, HA, HJ233, HO_400001, HO_410001, HO_420001, HO_426001, HO_432001, BK399, BK409, BK419, BK425, BK431, HB⟩ := hcut
                   cases kq with
                   | zero => exact absurd HA.out (by simp [laws_FnCurrents.j6])
                   | succ kj233 =>
                    have H := HA.out
                    clear HA
                    simp only [laws_FnCurrents.j6] at H
                    by_cases c242 : x259_233 = true
                    case pos =>
                     subst c242
                     have H1 : (some false) = some r := by rw [if_pos rfl] at H; exact H
                     clear H
                     have H := H1
                     clear H1
                     exact absurd ((Option.some.inj H).trans hT) (by decide)
                    as_aux_lemma =>
                     replace c242 := Bool.eq_false_iff.mpr c242
                     subst c242
                     have H1 : (if t400 = 0 then (some true) else ((impl_CurrentOf.f kj233 t394 t395 (wrap64 (t400 - 1))).bind fun bt467 => (if bt467.2 = 0 then (some (decide (bt467.1 < t398))) else (some false)))) = some r := by rw [if_neg (show ¬ (false = true) by decide)] at H; exact H
                     clear H
                     have H := H1
                     clear H1
                     by_cases c243 : t400 = 0
                     ·rw [if_pos c243] at H
                      have c243b0 : (t400 == 0) = true := beq_iff_eq.mpr c243
                      have c243b1 : (t400 != 0) = false := bne_eq_false_iff_eq.mpr c243
                      clear c243
                      obtain rfl := Option.some.inj H
                      go_wp2
                      go_ret
                      exact ⟨by first | rfl | (simp [errW_none, errW_some] <;> rfl) | (simp [*, errW_none, errW_some] <;> rfl), by repeat (first | (with_reducible first | exact HB.out | apply below_alloc | apply pw_below_drewN | apply below_drew1 | refine below_set ?_ GE399.out | refine below_set ?_ GE409.out | refine below_set ?_ GE419.out | refine below_set ?_ GE425.out | refine below_set ?_ GE431.out) | exact HB.out)⟩
                     ·rw [if_neg c243] at H
                      have c243b0 : (t400 == 0) = false := beq_eq_false_iff_ne.mpr c243
                      have c243b1 : (t400 != 0) = true := bne_iff_ne.mpr c243
                      replace H := Option.bind_eq_some_iff.mp H
                      obtain ⟨⟨t467, t468⟩, A2440, H⟩ := H
                      replace H : (if t468 = 0 then (some (decide (t467 < t398))) else (some false)) = some r := H
                      have A244 := Aside0.mk A2440
                      clear A2440
                      by_cases c245 : t468 = 0
                      case neg =>
                       rw [if_neg c245] at H
                       have c245b0 : (t468 == 0) = false := beq_eq_false_iff_ne.mpr c245
                       have c245b1 : (t468 != 0) = true := bne_iff_ne.mpr c245
                       exact absurd ((Option.some.inj H).trans hT) (by decide)
                      rw [if_pos c245] at H
                      have c245b0 : (t468 == 0) = true := beq_iff_eq.mpr c245
                      have c245b1 : (t468 != 0) = false := bne_eq_false_iff_eq.mpr c245
                      clear c245
                      obtain rfl := Option.some.inj H
                      have hnb246 := NB399_409.out
                      have hnc246 := NB409_399.out
                      have hnb247 := NB399_419.out
                      have hnc247 := NB419_399.out
                      have hnb248 := NB399_425.out
                      have hnc248 := NB425_399.out
                      have hnb249 := NB399_431.out
                      have hnc249 := NB431_399.out
                      have hcz250_0 : wc.cell? ⟨gb399, 0, none⟩ = some (.int .i64 t394) := (blk_cell BK399.out 0).trans rfl
                      have hcz250_1 : wc.cell? ⟨gb399, 1, none⟩ = some (.slice Ao20 t395.length co20) := (blk_cell BK399.out 1).trans rfl
                      have hfz250_0 := blk_frozen BK399.out 0
                      have hfz250_1 := blk_frozen BK399.out 1
                      go_wp2_with (first | ((with_reducible refine gate_callee (f := 94) rfl ?_); refine goesL_ (some 266) rfl rfl Try.func94 (by kernel_rfl) rfl #[.agg #[.int .i64 t394, .slice Ao20 t395.length co20], .int .i64 (wrap64 (t400 - 1))] rfl (by (try simp only [List.map_toArray, List.map_cons, List.map_nil]); first | done | rfl | (simp only [List.length_drop, List.length_take]; rfl)) ?_; (with_reducible refine (impl_CurrentOf.calls kj233 t394 _ _ t395 (wrap64 (t400 - 1)) t467 t468 _ ?side1 ?side2 A244.out).mono ?_); (case side1 => repeat (first | exact (Kd.R_reads' HO_400001.out).2.2 | (with_reducible refine Kd.C_alloc ?_ _) | (with_reducible refine Kd.C_drewN ?_ _) | (with_reducible refine Kd.C_drew ?_))); (case side2 => exact (Kd.R_reads' HO_400001.out).2.1); rintro e w251 ⟨rfl, hb⟩; refine ⟨_, rfl, ?_⟩; have n0_ := Aside0.mk (Kd.R_below (by (with_reducible repeat (first | apply Kd.R_alloc | apply Kd.R_drewN | apply Kd.R_drew)); exact HO_400001.out) hb); have n1_ := Aside0.mk (Kd.R_below (by (with_reducible repeat (first | apply Kd.R_alloc | apply Kd.R_drewN | apply Kd.R_drew)); exact HO_410001.out) hb); have n2_ := Aside0.mk (Kd.R_below (by (with_reducible repeat (first | apply Kd.R_alloc | apply Kd.R_drewN | apply Kd.R_drew)); exact HO_420001.out) hb); have n3_ := Aside0.mk (Kd.R_below (by (with_reducible repeat (first | apply Kd.R_alloc | apply Kd.R_drewN | apply Kd.R_drew)); exact HO_426001.out) hb); have n4_ := Aside0.mk (Kd.R_below (by (with_reducible repeat (first | apply Kd.R_alloc | apply Kd.R_drewN | apply Kd.R_drew)); exact HO_432001.out) hb); have n5_ := Aside0.mk (blk_below (g := gb399) (o := .cells #[.int .i64 t394, .slice Ao20 t395.length co20] 118 (0, 0)) (by (with_reducible repeat (first | refine blk_drewN ?_ _ | refine blk_drew ?_ | refine blk_alloc ?_ _)); exact BK399.out) hb); have n6_ := Aside0.mk (blk_below (g := gb409) (o := .cells #[.int .i64 t404, .slice Ao28 t405.length co28] 118 (0, 0)) (by (with_reducible repeat (first | refine blk_drewN ?_ _ | refine blk_drew ?_ | refine blk_alloc ?_ _)); exact BK409.out) hb); have n7_ := Aside0.mk (blk_below (g := gb419) (o := .cells #[.int .i64 t414, .slice Ao37 t415.length co37] 118 (0, 0)) (by (with_reducible repeat (first | refine blk_drewN ?_ _ | refine blk_drew ?_ | refine blk_alloc ?_ _)); exact BK419.out) hb); have n8_ := Aside0.mk (blk_below (g := gb425) (o := .cells #[.int .i64 t420, .slice Ao44 t421.length co44] 118 (0, 0)) (by (with_reducible repeat (first | refine blk_drewN ?_ _ | refine blk_drew ?_ | refine blk_alloc ?_ _)); exact BK425.out) hb); have n9_ := Aside0.mk (blk_below (g := gb431) (o := .cells #[.int .i64 t426, .slice Ao53 t427.length co53] 118 (0, 0)) (by (with_reducible repeat (first | refine blk_drewN ?_ _ | refine blk_drew ?_ | refine blk_alloc ?_ _)); exact BK431.out) hb); have n10_ := Aside0.mk (below_step (by repeat (first | (with_reducible first | exact HB.out | apply below_alloc | apply pw_below_drewN | apply below_drew1 | refine below_set ?_ GE399.out | refine below_set ?_ GE409.out | refine below_set ?_ GE419.out | refine below_set ?_ GE425.out | refine below_set ?_ GE431.out) | exact HB.out)) hb); clear HO_400001; clear HO_410001; clear HO_420001; clear HO_426001; clear HO_432001; clear BK399; clear BK409; clear BK419; clear BK425; clear BK431; clear HB; have HO_400001 := n0_; have HO_410001 := n1_; have HO_420001 := n2_; have HO_426001 := n3_; have HO_432001 := n4_; have BK399 := n5_; have BK409 := n6_; have BK419 := n7_; have BK425 := n8_; have BK431 := n9_; have HB := n10_; clear n0_ n1_ n2_ n3_ n4_ n5_ n6_ n7_ n8_ n9_ n10_; (try clear hb); (try clear hb2); (try clear hk); (try clear hi)))
                      go_ret
                      exact ⟨by first | rfl | (simp [errW_none, errW_some] <;> rfl) | (simp [*, errW_none, errW_some] <;> rfl), by repeat (first | (with_reducible first | exact HB.out | apply below_alloc | apply pw_below_drewN | apply below_drew1 | refine below_set ?_ GE399.out | refine below_set ?_ GE409.out | refine below_set ?_ GE419.out | refine below_set ?_ GE425.out | refine below_set ?_ GE431.out) | exact HB.out)⟩
/-- THE ONE PURE STATEMENT of laws_FnCurrents: yours. -/
def laws_FnCurrents.Pure : Prop := ∀ (l0 : List Int), l0.length ≤ maxLen → l0.length * 1 ≤ 140737488351232 → (∀ x ∈ l0, (Lit.int .u8 x).wf = true) → ∃ k, laws_FnCurrents.f k l0 = some true
theorem laws_FnCurrents.walk (P : laws_FnCurrents.Pure) (a0 : Option Addr) (len0 cap0 : Nat) (z0 : List Int) (w : World) (w0 : (a0 = none ∧ len0 = 0 ∧ cap0 = 0 ∧ z0 = []) ∨ ∃ x, a0 = some x ∧ len0 ≤ cap0 ∧ cap0 ≤ maxLen ∧ z0.length = cap0 ∧ (∀ i, i < z0.length → w.cell? (x.add i) = some (.int .u8 (z0.getD i 0))) ∧ ∀ n ∈ z0, (Lit.int .u8 n).wf = true) (y0 : len0 * 1 ≤ 140737488351232) :
  Calls Try.prog 12 #[.slice a0 len0 cap0] w fun e w' => e = .returned (.bool true) ∧ Below w.heap.size w w' := by
 obtain ⟨l0, rfl, hr0, hm0, hw0, hc0⟩ := ReadsInt.ofRowC w0
 obtain ⟨k, h⟩ := P l0 hm0 y0 hw0
 refine (laws_FnCurrents.calls k _ _ l0 true w (Kd.C_of_reads (d := (0 : Int)) (h1 := fun _ => rfl) hr0) hc0 h rfl).mono ?_
 rintro e w' ⟨rfl, hd⟩
 exact ⟨rfl, hd⟩
end Go.Proofs.Ytedcdhnbceaaeaa.PFnCurrents
