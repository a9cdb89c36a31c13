/-
  Prefixes in the document's text: what they are, evaluated whole. No conditions.
-/
import Derived.Test.YteljeekapcenlaaMa
namespace Go.Proofs.Yteljeekapcenlaa
open Go
set_option linter.unusedVariables false
set_option linter.unusedSimpArgs false
-- stockaderef02.ParsePrefix
-- DEEP r02_ParsePrefix 161 - ByteArray → Option (T_api_Prefix × Int)
noncomputable def e_r02_ParsePrefix (x : T_api_Prefix × Int) : Value := .tuple ⟨[v_api_Prefix (x.1), .int .i64 (x.2)]⟩
noncomputable def E_r02_ParsePrefix (x : T_api_Prefix × Int) : Value × Ev.AH := (e_r02_ParsePrefix x, ⟨[], 0, []⟩)
noncomputable def s_r02_ParsePrefix (F : ByteArray → Option (T_api_Prefix × Int)) : Ev.Sp := fun vs k => Ev.kU vs fun a0 r0 => Ev.kE r0 <| Ev.gS a0 fun x0 => Ev.bnd (F x0) fun x => k (e_r02_ParsePrefix x)
theorem rs_r02_ParsePrefix (F : ByteArray → Option (T_api_Prefix × Int)) : Ev.SpRl (s_r02_ParsePrefix F) := by
  intro S vs k k2 hk
  unfold s_r02_ParsePrefix
  refine Ev.rl_kU fun _ _ => ?_
  refine Ev.rl_kE ?_
  refine Ev.rl_gS fun _ => ?_
  exact Ev.Rl.bnd fun x => hk _
noncomputable def EcIl : Ev.Env := ⟨Try.prog, tys, { mode := fun _ => 0, clear := clearOf, lit := lits, nrm := false }⟩
theorem envOkcIl : Ev.EnvOk EcIl := ⟨fits, names_ok, mixed_ok, fun _ _ h => (by cases h), fun _ _ h => (by cases h)⟩
def lit0 : ByteArray := ⟨#[102, 101, 56, 48, 58, 58, 47, 49, 48]⟩
def pfx0 : T_api_Prefix := ⟨6, 18338657682652659712, 0, 10⟩
theorem run_pfx0 : Ev.evBody0 EcIl (Ev.evTab EcIl [] 60 40) (fun s => Ev.loopN s 60) 161 [.string lit0] ⟨[], 0, []⟩ = Ev.ret (e_r02_ParsePrefix (pfx0, 0)) := by kernel_rfl
def lit1 : ByteArray := ⟨#[49, 54, 57, 46, 50, 53, 52, 46, 48, 46, 48, 47, 49, 54]⟩
def pfx1 : T_api_Prefix := ⟨4, 0, 2851995648, 16⟩
theorem run_pfx1 : Ev.evBody0 EcIl (Ev.evTab EcIl [] 60 40) (fun s => Ev.loopN s 60) 161 [.string lit1] ⟨[], 0, []⟩ = Ev.ret (e_r02_ParsePrefix (pfx1, 0)) := by kernel_rfl
def lit2 : ByteArray := ⟨#[102, 102, 48, 50, 58, 58, 47, 49, 54]⟩
def pfx2 : T_api_Prefix := ⟨6, 18375249429625044992, 0, 16⟩
theorem run_pfx2 : Ev.evBody0 EcIl (Ev.evTab EcIl [] 60 40) (fun s => Ev.loopN s 60) 161 [.string lit2] ⟨[], 0, []⟩ = Ev.ret (e_r02_ParsePrefix (pfx2, 0)) := by kernel_rfl
def lit3 : ByteArray := ⟨#[102, 102, 48, 49, 58, 58, 47, 49, 54]⟩
def pfx3 : T_api_Prefix := ⟨6, 18374967954648334336, 0, 16⟩
theorem run_pfx3 : Ev.evBody0 EcIl (Ev.evTab EcIl [] 60 40) (fun s => Ev.loopN s 60) 161 [.string lit3] ⟨[], 0, []⟩ = Ev.ret (e_r02_ParsePrefix (pfx3, 0)) := by kernel_rfl
def lit4 : ByteArray := ⟨#[50, 50, 52, 46, 48, 46, 48, 46, 48, 47, 50, 52]⟩
def pfx4 : T_api_Prefix := ⟨4, 0, 3758096384, 24⟩
theorem run_pfx4 : Ev.evBody0 EcIl (Ev.evTab EcIl [] 60 40) (fun s => Ev.loopN s 60) 161 [.string lit4] ⟨[], 0, []⟩ = Ev.ret (e_r02_ParsePrefix (pfx4, 0)) := by kernel_rfl
noncomputable def F_r02_ParsePrefix (s : ByteArray) : Option (T_api_Prefix × Int) := if s = lit0 then some (pfx0, 0) else if s = lit1 then some (pfx1, 0) else if s = lit2 then some (pfx2, 0) else if s = lit3 then some (pfx3, 0) else if s = lit4 then some (pfx4, 0) else none
theorem g_r02_ParsePrefix : Ev.SpOk Try.prog false 161 (s_r02_ParsePrefix F_r02_ParsePrefix) := by
  refine Ev.SpOk.mkF fun vs k r g0 => ?_
  unfold s_r02_ParsePrefix at g0
  obtain ⟨a0, r0, rfl, g1⟩ := Ev.kU_ok g0
  obtain ⟨rfl, g2⟩ := Ev.kE_ok g1
  obtain ⟨x0, rfl, g3⟩ := Ev.gS_ok g2
  obtain ⟨x, hx, h⟩ := Ev.bnd_get g3
  unfold F_r02_ParsePrefix at hx
  by_cases h0 : x0 = lit0
  · subst h0
    rw [if_pos rfl] at hx
    obtain rfl := Option.some.inj hx
    exact ⟨_, h, Ev.good_plain envOkcIl Ev.TabOk.nil run_pfx0 (by kernel_rfl) (by kernel_rfl) ⟨[], 0, []⟩⟩
  rw [if_neg h0] at hx
  by_cases h1 : x0 = lit1
  · subst h1
    rw [if_pos rfl] at hx
    obtain rfl := Option.some.inj hx
    exact ⟨_, h, Ev.good_plain envOkcIl Ev.TabOk.nil run_pfx1 (by kernel_rfl) (by kernel_rfl) ⟨[], 0, []⟩⟩
  rw [if_neg h1] at hx
  by_cases h2 : x0 = lit2
  · subst h2
    rw [if_pos rfl] at hx
    obtain rfl := Option.some.inj hx
    exact ⟨_, h, Ev.good_plain envOkcIl Ev.TabOk.nil run_pfx2 (by kernel_rfl) (by kernel_rfl) ⟨[], 0, []⟩⟩
  rw [if_neg h2] at hx
  by_cases h3 : x0 = lit3
  · subst h3
    rw [if_pos rfl] at hx
    obtain rfl := Option.some.inj hx
    exact ⟨_, h, Ev.good_plain envOkcIl Ev.TabOk.nil run_pfx3 (by kernel_rfl) (by kernel_rfl) ⟨[], 0, []⟩⟩
  rw [if_neg h3] at hx
  by_cases h4 : x0 = lit4
  · subst h4
    rw [if_pos rfl] at hx
    obtain rfl := Option.some.inj hx
    exact ⟨_, h, Ev.good_plain envOkcIl Ev.TabOk.nil run_pfx4 (by kernel_rfl) (by kernel_rfl) ⟨[], 0, []⟩⟩
  rw [if_neg h4] at hx
  cases hx
end Go.Proofs.Yteljeekapcenlaa
