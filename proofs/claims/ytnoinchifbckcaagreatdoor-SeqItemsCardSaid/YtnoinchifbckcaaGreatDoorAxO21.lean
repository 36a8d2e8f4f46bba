import Derived.Test.YtnoinchifbckcaaGreatDoorAxO20
set_option linter.all false
namespace Go.Ax.Law
variable {α:Type}
theorem sorted_unique {key:α→Int}: ∀{xs ys:List α},xs.Pairwise (fun a b=>key a≤key b)→ys.Pairwise (fun a b=>key a≤key b)→(∀c,xs.filter (keyIs key c)=ys.filter (keyIs key c))→xs=ys
 | [],[],_,_,_=>rfl
 | [],y::ys,_,_,h=>by
  have:=h (key y)
  simp [keyIs] at this
 |x::xs,[],_,_,h=>by
  have:=h (key x)
  simp [keyIs] at this
 |x::xs,y::ys,hx,hy,h=>by
  have hx1:=List.pairwise_cons.1 hx
  have hy1:=List.pairwise_cons.1 hy
  have mem: ∀{u v:List α} {z:α},(∀c,u.filter (keyIs key c)=v.filter (keyIs key c))→z∈u→z∈v:=fun {u v z} h hz=>by
   have:z∈u.filter (keyIs key (key z)):=List.mem_filter.2 ⟨hz,by simp [keyIs]⟩
   rw [h] at this
   exact (List.mem_filter.1 this).1
  have h1:key x≤key y:=by
   rcases List.mem_cons.1 (mem (fun c=>(h c).symm) (List.mem_cons_self (a:=y) (l:=ys))) with e |e
   ·rw [e];exact Int.le_refl _
   ·exact hx1.1 y e
  have h2:key y≤key x:=by
   rcases List.mem_cons.1 (mem h (List.mem_cons_self (a:=x) (l:=xs))) with e |e
   ·rw [e];exact Int.le_refl _
   ·exact hy1.1 x e
  have he:key x=key y:=by omega
  have hc:=h (key x)
  have kx:keyIs key (key x) x=true:=by simp [keyIs]
  have ky:keyIs key (key x) y=true:=by simp [keyIs,he]
  rw [List.filter_cons_of_pos kx,List.filter_cons_of_pos ky] at hc
  have hxy:x=y:=(List.cons.inj hc).1
  subst hxy
  congr 1
  refine sorted_unique hx1.2 hy1.2 fun c=>?_
  have:=h c
  by_cases hk:keyIs key c x=true
  ·rw [List.filter_cons_of_pos hk,List.filter_cons_of_pos hk] at this
   exact (List.cons.inj this).2
  ·rw [List.filter_cons_of_neg hk,List.filter_cons_of_neg hk] at this
   exact this
theorem le_total' (a b:Job):(decide (keyJ a≤keyJ b)||decide (keyJ b≤keyJ a))=true:=by
 rw [Bool.or_eq_true,decide_eq_true_eq,decide_eq_true_eq];omega
theorem le_trans' (a b c:Job) (h1:decide (keyJ a≤keyJ b)=true) (h2:decide (keyJ b≤keyJ c)=true):decide (keyJ a≤keyJ c)=true:=by
 simp at*;omega
theorem sortJ_sorted (l:List Job):(sortJ l).Pairwise (fun a b=>keyJ a≤keyJ b):=by
 have:=List.pairwise_mergeSort (le:=fun a b:Job=>decide (keyJ a≤keyJ b)) le_trans' le_total' l
 exact this.imp fun h=>by simpa using h
theorem sortJ_filter (l:List Job) (c:Int):(sortJ l).filter (keyIs keyJ c)=l.filter (keyIs keyJ c):=by
 have hp:(l.filter (keyIs keyJ c)).Pairwise (fun a b=>decide (keyJ a≤keyJ b)=true):=by
  rw [List.pairwise_iff_getElem]
  intro i j hi hj _
  have h1:=(List.mem_filter.1 (List.getElem_mem hi)).2
  have h2:=(List.mem_filter.1 (List.getElem_mem hj)).2
  simp [keyIs] at h1 h2 ⊢
  omega
 have hs:=List.sublist_mergeSort (le:=fun a b:Job=>decide (keyJ a≤keyJ b)) le_trans' le_total' hp (List.filter_sublist (p:=keyIs keyJ c) (l:=l))
 have hs2:=hs.filter (keyIs keyJ c)
 have hf:(l.filter (keyIs keyJ c)).filter (keyIs keyJ c)=l.filter (keyIs keyJ c):=by
  rw [List.filter_filter];simp
 rw [hf] at hs2
 have hl:((sortJ l).filter (keyIs keyJ c)).length=(l.filter (keyIs keyJ c)).length:=((List.mergeSort_perm l _).filter _).length_eq
 exact (hs2.eq_of_length hl.symm).symm
theorem seg_sortJ {l ys:List Job} (h:SortedSeg keyJ l ys 0 l.length):ys=sortJ l:=by
 obtain ⟨h1,h2,h3,h4⟩:=h
 refine sorted_unique (key:=keyJ) ?_ (sortJ_sorted l) fun c=>by rw [h4,sortJ_filter]
 rw [List.pairwise_iff_getElem]
 intro i j hi hj hij
 exact h3 i j _ _ (by omega) hij (by omega) (List.getElem?_eq_getElem hi) (List.getElem?_eq_getElem hj)
end Go.Ax.Law
namespace Go.Ax.O
open Go.Ax.Sp Go.Ax.Law
theorem vSortB {l:List Job} {k:List Job × Unit→Unit→Prop} (h:oSortB 0 (l,(),()) k):V.vStabFB l k:=by
 obtain ⟨hs,hk⟩:=h
 simp only [] at hs hk
 refine vStabFB ⟨⟨hs.1,by have:=hs.2;simp only [];omega⟩,fun ys hy=>?_⟩
 rw [seg_sortJ hy]
 exact hk
end Go.Ax.O
