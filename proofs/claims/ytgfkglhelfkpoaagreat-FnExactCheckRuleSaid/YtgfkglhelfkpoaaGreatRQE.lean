/- Texts put together: FrCheckRule. -/
import Derived.Test.YtgfkglhelfkpoaaGreatRQD
import Derived.WalkKit
import Derived.ProofKit
import Derived.OpenShut
import Derived.ShutString
import Derived.ChangeOld
import Derived.Below
set_option maxRecDepth 100000
set_option maxHeartbeats 1000000
namespace Go.Proofs.YtgfkglhelfkpoaaGreat.fnExactCheckRule
open Go.ChangeShapes Go.WideShapes Go.ChangeAt Go.RowKit
theorem own:ownKnob Tryz.prog.godebug=none:=by kernel_rfl
theorem laidOut:laidOutB Tryz.prog=true:=by kernel_rfl
theorem lifted (os:Os) (started:os.Started) (H:Type) (enc:TypeId×Value→H) :
  ReturnsInHanded {} Tryz.checked os 3 .any (Rows.fnExactCheckRuleSpec.pre6 enc Tryz.prog Tryz.f3 Rows.fnExactCheckRuleRow.domain false) (Rows.fnExactCheckRuleSpec.post enc Tryz.prog Tryz.f3 false true false false):=by
 refine returnsInHanded_of_change (C:=Tryz.checked) own started (by kernel_rfl) Tryz.func3
  (ChangeSpec.witness6 (enc:=enc) (C:=Tryz.checked) false ⟨#[],#[.agg #[.int .i64 0,.int .i64 0,.int .i64 0,.int .i64 0,.int .i64 0,.slice none 0 0,.int .i64 0,.int .i64 0,.int .i64 0,.int .i64 0,.slice none 0 0]],[]⟩ 8 (by kernel_rfl) (by kernel_rfl) (by kernel_rfl) (by kernel_rfl)) ?_
 intro W base args ds gs before hval0 hW hcnd _
 have hval:∀ (j:Nat) t v,Tryz.f3.params[j]? = some t→args[j]? = some v→Value.okWide Tryz.prog W .any base t v:=hval0
 have hW':=hW
 obtain ⟨p,q,hA0,hV,rfl,hfz,hnd⟩:=hW
 have hA:DataW.TrodAll enc Tryz.prog W 0 (fun _=>true) true Tryz.f3.params.toList args.toList ds p:=hA0
 rw [Tryz.params3] at hA hval
 obtain ⟨v0,vs0,d0,ds0,p0,q0,hargs,rfl,rfl,h0,r0⟩:=trodAll_cons hA
 obtain ⟨rfl,rfl,rfl⟩:=trodAll_nil r0
 obtain rfl:args=#[v0]:=by cases args;simp_all
 obtain ⟨rfl,rfl⟩:=trodVars_none hV
 obtain ⟨cs0,rfl,_⟩:=okWide_struct Tryz.underlying26 (hval 0 26 v0 rfl rfl)
 have k0:=h0
 have lt0:∀ x∈p0,x.block<W.heap.size:=by obtain ⟨m,hm⟩:=k0;exact DataW.trod_lt m _ _ _ hm
 obtain ⟨u0,l0,z0,a0,b0,c0,d0,e0,w0,m0,n0,w0',m0',n0'⟩:∃ (v:Int) (l r:Nd) (KL KR:Option Addr) (cl cr:Nat),cs0=#[.int .i64 v,.int .i64 l.k,.int .i64 l.n,.int .i64 l.p,.int .i64 l.c,.slice KL l.ks.len cl,.int .i64 r.k,.int .i64 r.n,.int .i64 r.p,.int .i64 r.c,.slice KR r.ks.len cr]∧ExSl W W.heap.size l.ks KL∧l.ks.len≤cl∧cl≤maxLen∧ExSl W W.heap.size r.ks KR∧r.ks.len≤cr∧cr≤maxLen:=by
  obtain ⟨fuel,hf⟩:=h0
  obtain ⟨v,l,r,KL,KR,cl,cr,hcs,h1⟩:=open_rule hf
  exact ⟨v,l,r,KL,KR,cl,cr,by cases cs0;simpa [Value.cells] using hcs,h1⟩
 subst e0
 clear hA0 hval0
 refine (lawExactCheckRule u0 l0 z0 a0 b0 c0 d0 W w0 m0 n0 w0' m0' n0').mono fun e W' ⟨he,bel⟩=>?_
 subst he
 exact ⟨_,rfl,_,_,_,[],_,[],hW',trodAll_mk1 (shut_bool Tryz.underlying4 _),(trodAll_cons_mk (Below.trod laidOut (by kernel_rfl) (of_decide_eq_true (by kernel_rfl)) k0 bel lt0) trodAll_mk0),rfl,bel.frame _,fun h=>by cases h⟩
theorem nmd:Tryz.pinned.checked.prog.funcNamed Rows.fnExactCheckRuleRow.func=some 3:=by kernel_rfl
theorem inst:Func.isInstance Tryz.pinned.checked.prog Tryz.f3 Rows.fnExactCheckRuleRow.origin Rows.fnExactCheckRuleRow.targs:=of_decide_eq_true (by kernel_rfl)
theorem wrap:Func.isWrapper Tryz.pinned.checked.prog Tryz.f3 Rows.fnExactCheckRuleRow.wrapper Rows.fnExactCheckRuleRow.mainSum:=by unfold Func.isWrapper;first | (rw [if_pos (by decide +kernel)];kernel_rfl) | (rw [if_neg (by decide +kernel)];exact ⟨rfl,rfl⟩)
end Go.Proofs.YtgfkglhelfkpoaaGreat.fnExactCheckRule
