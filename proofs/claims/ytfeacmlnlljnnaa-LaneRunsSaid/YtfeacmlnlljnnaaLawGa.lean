/- Statements of layer 7: the parts of LaneRuns' code, and what a deed's own part comes to: down behind so many writes. -/
import Derived.Test.YtfeacmlnlljnnaaLawF
namespace Go.Proofs.Ytfeacmlnlljnnaa
open Go Go.Proofs Go.RowKit

theorem RunOk.succ {D : DiskM} {L : LaneM} {rs : List Rec} {k n : Nat} (h : RunOk D L rs k n) : RunOk D L rs k (n + 1) := ⟨h.inv, h.r, h.dn, h.size, Nat.le_succ_of_le h.gen⟩

/-- What holds between two deeds. -/
def Rel7 (c : Col) (w : World) (N Y d l : Nat) (dsv : Value) (ds : List Deed) (av : Value) (k n : Nat) (wx : World) : Prop :=
  ∃ (c' : Col) (Z : Nat) (D : DiskM) (L : LaneM) (rs : List Rec), N + 2 ≤ Z ∧ DiskRep c' wx N d D ∧ LaneRep c' wx Z l d L ∧ Recs c' wx (N + 1) av rs ∧ Deeds c' wx Y dsv ds ∧ Ext (Big N) c w c' wx ∧ RunOk D L rs k n
/-- What holds behind a deed's own part. -/
def Mid7 (c : Col) (w : World) (N Y d l pk : Nat) (dsv : Value) (ds : List Deed) (dd : Deed) (av ov : Value) (k n : Nat) (dn an : Bool) (wx : World) : Prop :=
  ∃ (c' : Col) (Z : Nat) (D : DiskM) (L : LaneM) (rs : List Rec), N + 2 ≤ Z ∧ RunAt c w N Y d Z l pk dsv ds dd D L av rs c' wx ∧
    ((dn = false ∧ an = false ∧ RunOk D L rs k (n + 1)) ∨ (dn = true ∧ ∃ os, DownOk D L rs k n an os ∧ (an = true → Recs c' wx (N + 1) ov os)))

noncomputable def codeL : Code → Code
  | .seq a _ => a
  | c => c
noncomputable def codeR : Code → Code
  | .seq _ b => b
  | c => c
noncomputable def codeB : Code → Code
  | .block _ c => c
  | c => c
noncomputable def codeO : Code → Code
  | .loop c => c
  | c => c
noncomputable def codeS : Option Code → Code
  | some c => c
  | none => .skip
/-- A round's own block. -/
noncomputable def code7 : Code := codeB (codeL (codeR (codeR (codeO (codeB (codeR (codeL (codeR (codeR (codeR (codeR (codeR (codeR (codeR (codeR (codeS Try.f3.body))))))))))))))))
/-- What a deed does by its kind. -/
noncomputable def code7a : Code := codeR (codeL (codeR code7))
/-- What follows. -/
noncomputable def code7b : Code := codeR (codeR code7)

set_option maxRecDepth 100000 in
set_option maxHeartbeats 4000000 in
theorem deed4 (c : Col) (w : World) (N Y d l pk : Nat) (dsv : Value) (ds : List Deed) (dd : Deed) (av : Value) (k n : Nat) (Z : Nat) (D : DiskM) (L : LaneM) (rs : List Rec) (c7 : Col) (w7 : World) (hfn : Y < N) (hZ : N + 2 ≤ Z)
    (hat : RunAt c w N Y d Z l pk dsv ds dd D L av rs c7 w7) (hok : RunOk D L rs k n) (t0 t1 t2 t5 t8 t11 t13 t14 t15 t16 t17 t18 t19 t20 t21 t22 t23 t24 t25 t26 t27 t28 t29 t30 t31 t32 t33 t34 t35 t36 t37 t38 t39 t40 t41 t42 t43 t44 t45 t46 t47 t48 t50 t51 t52 t53 t54 t55 t56 t57 t58 t59 t60 t61 t62 t63 t64 t65 t66 t67 t68 t69 t70 t71 t72 t73 t74 t75 t76 t77 t78 t79 t80 t81 t82 t83 t84 t85 t86 t87 t88 t89 t90 t91 t92 t93 t94 t95 t96 t97 t98 t99 t100 t101 t102 t103 t104 t105 t106 t107 t108 t109 t110 t111 t112 t113 t114 t115 t116 t117 t118 t119 t120 t121 t122 t123 t124 t125 t126 t127 t128 t129 t130 t131 t132 t133 t134 t135 t136 t137 t138 t139 t140 t141 t142 t143 t144 t145 t146 t147 t148 t149 t150 t151 t152 t153 t154 t155 t156 t157 t158 t159 t160 t161 t162 t163 t164 t165 t166 t167 t168 t169 t170 t171 t172 t173 t174 t175 t176 t177 t178 t179 t180 t181 t182 t183 t184 t185 t186 t187 t188 t189 t190 t191 t192 t193 t194 t195 t196 t197 t198 t199 t200 t201 t202 t203 t204 t205 t206 t207 t208 t209 t210 t211 t212 t213 t214 t215 t216 t217 t218 t219 t220 t221 t222 t223 t224 t225 t226 t227 t228 t229 t230 t231 t232 t233 t234 t235 t236 t237 t238 t239 t240 t241 t242 t243 t244 t245 t246 : Value) (K : Act → World → Prop) (Q : Exit → Act → World → Prop) (hQp : ∀ (x : List PanicEntry) (a : Act) (t : Option Tmp) (v : Value) (w : World), Q (.panic x) (a.put t v) w → Q (.panic x) a w)
    (hK : ∀ (l2 k2 : Nat) (dn an : Bool) (av2 ov2 : Value) (s2 s13 s14 s15 s16 s17 s18 s19 s20 s21 s50 s51 s52 s53 s54 s55 s56 s57 s58 s59 s60 s61 s62 s63 s64 s65 s66 s67 s68 s69 s70 s71 s72 s73 s74 s75 s76 s77 s78 s79 s80 s81 s82 s83 s84 s85 s86 s87 s88 s89 s90 s91 s92 s93 s94 s95 s96 s97 s98 s99 s100 s101 s102 s103 s104 s105 s106 s107 s108 s109 s110 s111 s112 s113 s114 s115 s116 s117 s118 s119 s120 s121 s122 s123 s124 s125 s126 s127 s128 s129 s130 s131 s132 s133 s134 s135 s136 s137 s138 s139 s140 s141 s142 s143 s144 s145 s146 s147 s148 s149 s150 s151 s152 s153 s154 s155 s156 s157 s158 s159 s160 s161 s162 s163 s164 s165 s166 s167 s168 s169 s170 s171 s172 s173 s174 s175 : Value) (w' : World), Mid7 c w N Y d l2 pk dsv ds dd av2 ov2 k2 n dn an w' → K { tmps := #[t0, t1, s2, .pointer (some ⟨d, 0, none⟩), .pointer (some ⟨l2, 0, none⟩), t5, av2, .int .i64 (k2 : Int), ov2, .bool dn, .bool an, t11, .pointer (some ⟨pk, 0, none⟩), s13, s14, s15, s16, s17, s18, s19, s20, s21, t22, t23, t24, t25, t26, t27, t28, t29, t30, t31, t32, t33, t34, t35, t36, t37, t38, t39, t40, t41, t42, t43, t44, t45, t46, t47, t48, .int .i64 4, s50, s51, s52, s53, s54, s55, s56, s57, s58, s59, s60, s61, s62, s63, s64, s65, s66, s67, s68, s69, s70, s71, s72, s73, s74, s75, s76, s77, s78, s79, s80, s81, s82, s83, s84, s85, s86, s87, s88, s89, s90, s91, s92, s93, s94, s95, s96, s97, s98, s99, s100, s101, s102, s103, s104, s105, s106, s107, s108, s109, s110, s111, s112, s113, s114, s115, s116, s117, s118, s119, s120, s121, s122, s123, s124, s125, s126, s127, s128, s129, s130, s131, s132, s133, s134, s135, s136, s137, s138, s139, s140, s141, s142, s143, s144, s145, s146, s147, s148, s149, s150, s151, s152, s153, s154, s155, s156, s157, s158, s159, s160, s161, s162, s163, s164, s165, s166, s167, s168, s169, s170, s171, s172, s173, s174, s175, t176, t177, t178, t179, t180, t181, t182, t183, t184, t185, t186, t187, t188, t189, t190, t191, t192, t193, t194, t195, t196, t197, t198, t199, t200, t201, t202, t203, t204, t205, t206, t207, t208, t209, t210, t211, t212, t213, t214, t215, t216, t217, t218, t219, t220, t221, t222, t223, t224, t225, t226, t227, t228, t229, t230, t231, t232, t233, t234, t235, t236, t237, t238, t239, t240, t241, t242, t243, t244, t245, t246], defers := [] } w') :
    Code.wp Try.prog code7a (Exit.then K Q) { tmps := #[t0, t1, t2, .pointer (some ⟨d, 0, none⟩), .pointer (some ⟨l, 0, none⟩), t5, av, .int .i64 (k : Int), t8, .bool false, .bool false, t11, .pointer (some ⟨pk, 0, none⟩), t13, t14, t15, t16, t17, t18, t19, t20, t21, t22, t23, t24, t25, t26, t27, t28, t29, t30, t31, t32, t33, t34, t35, t36, t37, t38, t39, t40, t41, t42, t43, t44, t45, t46, t47, t48, .int .i64 4, t50, t51, t52, t53, t54, t55, t56, t57, t58, t59, t60, t61, t62, t63, t64, t65, t66, t67, t68, t69, t70, t71, t72, t73, t74, t75, t76, t77, t78, t79, t80, t81, t82, t83, t84, t85, t86, t87, t88, t89, t90, t91, t92, t93, t94, t95, t96, t97, t98, t99, t100, t101, t102, t103, t104, t105, t106, t107, t108, t109, t110, t111, t112, t113, t114, t115, t116, t117, t118, t119, t120, t121, t122, t123, t124, t125, t126, t127, t128, t129, t130, t131, t132, t133, t134, t135, t136, t137, t138, t139, t140, t141, t142, t143, t144, t145, t146, t147, t148, t149, t150, t151, t152, t153, t154, t155, t156, t157, t158, t159, t160, t161, t162, t163, t164, t165, t166, t167, t168, t169, t170, t171, t172, t173, t174, t175, t176, t177, t178, t179, t180, t181, t182, t183, t184, t185, t186, t187, t188, t189, t190, t191, t192, t193, t194, t195, t196, t197, t198, t199, t200, t201, t202, t203, t204, t205, t206, t207, t208, t209, t210, t211, t212, t213, t214, t215, t216, t217, t218, t219, t220, t221, t222, t223, t224, t225, t226, t227, t228, t229, t230, t231, t232, t233, t234, t235, t236, t237, t238, t239, t240, t241, t242, t243, t244, t245, t246], defers := [] } w7 := by
  have HAT := Lib.hid hat
  have HOK := Lib.hid hok
  have HK := Lib.hid hK
  have k1 : w7.cell? ⟨pk, 1, none⟩ = some (.int .i64 dd.n) := (hat.box.cell 1).trans rfl
  have harm := arm_in c7 w7 N d D 0 (Go.bits BinOp.and IntKind.i64 dd.n 63) (by rw [and63i]; omega) (by rw [and63i]; omega) hat.disk (by rw [hok.dn]; omega)
  have HARM := Lib.hid harm
  clear hat hok hK harm
  unfold code7a code7 Try.f3
  dsimp only [codeL, codeR, codeB, codeO, codeS]
  go_wp2_with (go_at_call 22; refine (HARM.out).mono ?_; rintro e w8 ⟨c8, rfl, hD, hE⟩; have HAT8 := Lib.hid ((HAT.out).did hZ hfn hD hE); clear hD hE HARM HAT)
  exact HK.out _ _ _ _ _ _ _ _ _ _ _ _ _ _ _ _ _ _ _ _ _ _ _ _ _ _ _ _ _ _ _ _ _ _ _ _ _ _ _ _ _ _ _ _ _ _ _ _ _ _ _ _ _ _ _ _ _ _ _ _ _ _ _ _ _ _ _ _ _ _ _ _ _ _ _ _ _ _ _ _ _ _ _ _ _ _ _ _ _ _ _ _ _ _ _ _ _ _ _ _ _ _ _ _ _ _ _ _ _ _ _ _ _ _ _ _ _ _ _ _ _ _ _ _ _ _ _ _ _ _ _ _ _ _ _ _ _ _ _ _ _ _ _ ⟨c8, Z, _, L, rs, hZ, HAT8.out, .inl ⟨rfl, rfl, ((HOK.out).arm _ _).succ⟩⟩
end Go.Proofs.Ytfeacmlnlljnnaa
