/- Parts of the proof. -/
import Derived.Test.YtgfkglhelfkpoaaGreatRRJ
import Derived.ShutString
set_option maxRecDepth 100000
set_option maxHeartbeats 1000000
open Go.Proofs.Tryz
open Go.Value renaming slice→V
open Option renaming some→M,none→U
open Go renaming Value→I1,maxLen→I2,Addr→I3
namespace Go.Proofs.YtgfkglhelfkpoaaGreat.fnExactRewriteAt
open Go.ChangeShapes Go.WideShapes Go.ChangeAt Go.RowKit
theorem own:ownKnob Tryz.prog.godebug=U:=aL
theorem laidOut:laidOutB Tryz.prog=true:=aL
theorem lifted(os:Os)(started:os.Started)(H:Type)(enc:TypeId×I1->H) :
  ReturnsInHanded {} Tryz.checked os 4 .any (Rows.fnExactRewriteAtSpec.pre6 enc Tryz.prog f4 Rows.fnExactRewriteAtRow.domain false) (Rows.fnExactRewriteAtSpec.post enc Tryz.prog f4 false true false false):=by
 refine returnsInHanded_of_change (C:=Tryz.checked) own started aL func4
  (ChangeSpec.witness6 (enc:=enc) (C:=Tryz.checked) false ⟨#[],#[.agg #[V U 0 0],.agg #[.int .i64 0,.int .i64 0,.int .i64 0,.int .i64 0,V U 0 0],.int .i64 0,.int .i64 0,.agg #[.int .i64 0,.int .i64 0,.int .i64 0,.int .i64 0,.int .i64 0,V U 0 0,.int .i64 0,.int .i64 0,.int .i64 0,.int .i64 0,V U 0 0],V U 0 0],[]⟩ 8 aL aL aL aL) ?_
 intro W base args ds gs before aem hW amn _;have hval:∀ (j:Nat) t v,f4.params[j]? = M t->args[j]? = M v->Value.okWide Tryz.prog W .any base t v:=aem;have hW':=hW;obtain⟨p,q,hA0,hV,rfl,hfz,hnd⟩:=hW;have hA:DataW.TrodAll enc Tryz.prog W 0 (λ_=>true) true f4.params.toList args.toList ds p:=hA0;rw[params4] at hA hval;obtain⟨v0,vs0,d0,ds0,p0,q0,hargs,rfl,rfl,h0,r0⟩:=trodAll_cons hA
 obtain⟨v1,vs1,d1,ds1,p1,q1,rfl,rfl,rfl,h1,r1⟩:=trodAll_cons r0;obtain⟨v2,vs2,d2,ds2,p2,q2,rfl,rfl,rfl,h2,r2⟩:=trodAll_cons r1;obtain⟨v3,vs3,d3,ds3,p3,q3,rfl,rfl,rfl,h3,r3⟩:=trodAll_cons r2;obtain⟨v4,vs4,d4,ds4,p4,q4,rfl,rfl,rfl,h4,r4⟩:=trodAll_cons r3;obtain⟨v5,vs5,d5,ds5,p5,q5,rfl,rfl,rfl,h5,r5⟩:=trodAll_cons r4;obtain⟨rfl,rfl,rfl⟩:=trodAll_nil r5;obtain rfl:args=#[v0,v1,v2,v3,v4,v5]:=by cases args;simp_all
 obtain⟨rfl,rfl⟩:=trodVars_none hV;obtain⟨cs0,rfl,_⟩:=okWide_struct underlying44 (hval 0 44 v0 rfl rfl);have k0:=h0;have lt0:∀ x∈p0,x.block<W.heap.size:=by obtain⟨m,hm⟩:=k0;exact DataW.trod_lt m _ _ _ hm
 obtain⟨a0,eT,z0,e0,b0,m0,w0⟩:∃ (A:Option I3) (cap:Nat) (fs:List Fn),cs0=#[V A fs.length cap]/\fs.length<=cap/\cap<=I2/\eP W W.heap.size fs A:=by
  obtain⟨fuel,hf⟩:=h0;obtain⟨A,cap,fs,hcs,h1,h2,h3⟩:=G7 hf;exact⟨A,cap,fs,by cases cs0;simpa [Value.cells] using hcs,h1,h2,h3⟩
 subst e0;obtain⟨cs1,rfl,_⟩:=okWide_struct underlying24 (hval 1 24 v1 rfl rfl);have k1:=h1;have lt1:∀ x∈p1,x.block<W.heap.size:=by obtain⟨m,hm⟩:=k1;exact DataW.trod_lt m _ _ _ hm
 obtain⟨z1,a1,b1,e1,w1⟩:∃ (y:Nd) (A:Option I3) (cap:Nat),cs1=#[.int .i64 y.k,.int .i64 y.n,.int .i64 y.p,.int .i64 y.c,V A y.ks.len cap]/\dO W W.heap.size y A cap:=by
  obtain⟨fuel,hf⟩:=h1;obtain⟨y,A,cap,hcs,h1,h2,h3⟩:=zT hf;exact⟨y,A,cap,by cases cs1;simpa [Value.cells] using hcs,h3,h1,h2⟩
 subst e1;obtain⟨a2,rfl,rfl,rfl,w2⟩:=open_int underlying2 (hval 2 2 v2 rfl rfl) h2;obtain⟨a3,rfl,rfl,rfl,w3⟩:=open_int underlying2 (hval 3 2 v3 rfl rfl) h3;obtain⟨cs4,rfl,_⟩:=okWide_struct underlying26 (hval 4 26 v4 rfl rfl);have k4:=h4;have lt4:∀ x∈p4,x.block<W.heap.size:=by obtain⟨m,hm⟩:=k4;exact DataW.trod_lt m _ _ _ hm
 obtain⟨u4,l4,z4,a4,b4,c4,d4,e4,w4,m4,n4,w4',m4',n4'⟩:∃ (v:Int) (l r:Nd) (KL KR:Option I3) (cl cr:Nat),cs4=#[.int .i64 v,.int .i64 l.k,.int .i64 l.n,.int .i64 l.p,.int .i64 l.c,V KL l.ks.len cl,.int .i64 r.k,.int .i64 r.n,.int .i64 r.p,.int .i64 r.c,V KR r.ks.len cr]/\bJ W W.heap.size l.ks KL/\l.ks.len<=cl/\cl<=I2/\bJ W W.heap.size r.ks KR/\r.ks.len<=cr/\cr<=I2:=by
  obtain⟨fuel,hf⟩:=h4;obtain⟨v,l,r,KL,KR,cl,cr,hcs,h1⟩:=Sb hf;exact⟨v,l,r,KL,KR,cl,cr,by cases cs4;simpa [Value.cells] using hcs,h1⟩
 subst e4;obtain⟨a5,alf,nu,rfl⟩:=okWide_slice underlying28 (hval 5 28 v5 rfl rfl);have k5:=h5;have lt5:∀ x∈p5,x.block<W.heap.size:=by obtain⟨m,hm⟩:=k5;exact DataW.trod_lt m _ _ _ hm
 obtain⟨z5,e5,w5⟩:∃ zs:List Int,zs.length=alf/\Ints W a5 zs:=by
  obtain⟨fuel,hf⟩:=h5
  rcases open_ints underlying28 underlying2 aL hf with ⟨hcs,_⟩ | ⟨x,l,c,zs,hcs,hl8,hl,hm,hz,_,hcell,TH⟩
  ·simp[Value.cells] at hcs
   obtain⟨rfl,rfl,rfl⟩:=hcs;exact⟨[],rfl,Ints.nil _ _⟩
  ·simp[Value.cells] at hcs
   obtain⟨rfl,rfl,rfl⟩:=hcs;exact Ew hl (by simpa using hz) hcell
 subst e5;clear hA0 aem;refine (yD z0 a0 eT z1 a1 b1 a2 a3 u4 l4 z4 a4 b4 c4 d4 a5 nu z5 W w0 b0 m0 w1 w2 w3 w4 m4 n4 w4' m4' n4' w5).mono λe W' ⟨he,bel⟩=>?_
 subst he;exact⟨_,rfl,_,_,_,[],_,[],hW',trodAll_mk1 (shut_bool underlying4 _),(trodAll_cons_mk (Below.trod laidOut aL (of_decide_eq_true aL) k0 bel lt0) (trodAll_cons_mk (Below.trod laidOut aL (of_decide_eq_true aL) k1 bel lt1) (trodAll_cons_mk (shut_int underlying2 w2) (trodAll_cons_mk (shut_int underlying2 w3) (trodAll_cons_mk (Below.trod laidOut aL (of_decide_eq_true aL) k4 bel lt4) (trodAll_cons_mk (Below.trod laidOut aL (of_decide_eq_true aL) k5 bel lt5) trodAll_mk0)))))),rfl,bel.frame _,λh=>by cases h⟩
theorem nmd:Tryz.pinned.checked.prog.funcNamed Rows.fnExactRewriteAtRow.func=M 4:=aL
theorem inst:Func.isInstance Tryz.pinned.checked.prog f4 Rows.fnExactRewriteAtRow.origin Rows.fnExactRewriteAtRow.targs:=of_decide_eq_true aL
theorem wrap:Func.isWrapper Tryz.pinned.checked.prog f4 Rows.fnExactRewriteAtRow.wrapper Rows.fnExactRewriteAtRow.mainSum:=by unfold Func.isWrapper;first | (rw[if_pos (by decide +kernel)];kernel_rfl) | (rw[if_neg (by decide +kernel)];exact⟨rfl,rfl⟩)
end Go.Proofs.YtgfkglhelfkpoaaGreat.fnExactRewriteAt
